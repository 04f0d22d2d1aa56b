/- The draws of the store, part 1: bytes of frames, where they stand. -/
import Derived.Test.YtknciobaifdafaaGreatDoorQD
set_option linter.unusedVariables false
set_option linter.unusedSimpArgs false
namespace Go.Pv
open Go.Lib
def fl (f : Fr) : List UInt8 := (frOf f).data.toList
def hdrL (f : Fr) : List UInt8 := itoa f.tries ++ 32 :: (itoa f.place ++ 32 :: (itoa f.cell ++ 32 :: ((gJ f.last).data.toList ++ 32 :: itoa f.text.size)))
theorem nH (f : Fr) : fl f = itoa f.turn ++ 32 :: (hdrL f ++ 58 :: (f.text.data.toList ++ 58 :: (itoa f.turn ++ 46 :: (itoa f.tries ++ [59])))) := by
  unfold fl frOf hdrL
  rw [mF, kL]
  simp only [List.append_assoc, List.cons_append]
def Dig (c : UInt8) : Prop := 48 ≤ c.toNat ∧ c.toNat ≤ 57
theorem yK {c : UInt8} (h : c.toNat < 48 ∨ 57 < c.toNat) : ¬ Dig c := fun ⟨h1, h2⟩ => by omega
theorem jD {c d : UInt8} {r s : List UInt8} (hc : ¬ Dig c) (hd : ¬ Dig d) : ∀ {a b : List UInt8}, Figs a → Figs b → a ++ c :: r = b ++ d :: s → a = b ∧ c = d ∧ r = s
  | [], [], _, _, h => by simpa using h
  | [], y :: b, _, hb, h => by
    simp only [List.nil_append, List.cons_append, List.cons.injEq] at h
    exact absurd (h.1 ▸ hb y (List.mem_cons_self ..)) hc
  | x :: a, [], ha, _, h => by
    simp only [List.nil_append, List.cons_append, List.cons.injEq] at h
    exact absurd (h.1 ▸ ha x (List.mem_cons_self ..)) hd
  | x :: a, y :: b, ha, hb, h => by
    simp only [List.cons_append, List.cons.injEq] at h
    have := jD hc hd (fun z hz => ha z (List.mem_cons_of_mem _ hz)) (fun z hz => hb z (List.mem_cons_of_mem _ hz)) h.2
    exact ⟨by rw [h.1, this.1], this.2⟩
theorem Gn {a : List UInt8} {c : UInt8} {r : List UInt8} {n : Nat} (ha : Figs a) (hc : ¬ Dig c) (h1 : ∀ i, i < n → ∀ d, (a ++ c :: r)[i]? = some d → Dig d) (h2 : ∀ d, (a ++ c :: r)[n]? = some d → ¬ Dig d) : a.length = n := by
  rcases Nat.lt_trichotomy a.length n with h | h | h
  · exact absurd (h1 a.length h c (by simp)) hc
  · exact h
  · have := h2 a[n] (by rw [List.getElem?_append_left h]; simp [h])
    exact absurd (ha _ (List.getElem_mem h)) this
theorem x9 {n : Int} (h : 0 ≤ n ∧ n ≤ 9) : ∃ c, itoa n = [c] ∧ (c.toNat : Int) = 48 + n := by
  rw [jg h.1, decDigits_one (by omega)]
  exact ⟨_, rfl, by rw [jI (by omega)]; omega⟩
theorem tu {n : Int} (h : 10 ≤ n ∧ n ≤ 99) : ∃ c d, itoa n = [c, d] ∧ (c.toNat : Int) = 48 + n / 10 ∧ (d.toNat : Int) = 48 + n % 10 := by
  rw [jg (by omega), dP (by omega), decDigits_one (by omega)]
  exact ⟨_, _, rfl, by rw [jI (by omega)]; omega, by rw [jI (by omega)]; omega⟩
theorem yL (n : Int) (h : 0 ≤ n) : itoa n ≠ [] := by rw [jg h]; exact xq _
theorem CO {n : Int} (h : 100 ≤ n) : 3 ≤ (itoa n).length := by
  rw [jg (by omega), dP (by omega), dP (by omega)]
  have := xq (n.toNat / 10 / 10)
  have := List.length_pos_iff.2 this
  simp only [List.length_append, List.length_cons, List.length_nil]
  omega
theorem qA {a b : Int} (ha : 0 ≤ a ∧ a ≤ 999999999) (hb : 0 ≤ b ∧ b ≤ 999999999) (h : itoa a = itoa b) : a = b := by
  rw [← oD ha.1 ha.2, h, oD hb.1 hb.2]
theorem n32 : ¬ Dig 32 := yK (by decide)
theorem n46 : ¬ Dig 46 := yK (by decide)
theorem zM (b : Bool) : ∃ c, (gJ b).data.toList = [c] ∧ (c.toNat < 48 ∨ 57 < c.toNat) := by
  cases b
  · exact ⟨45, rfl, .inl (by decide)⟩
  · exact ⟨33, rfl, .inl (by decide)⟩
def P9 (T n i c : Nat) : Prop :=
  (i = 0 → 49 ≤ c ∧ c ≤ 48 + T) ∧ (i = 1 → c = 32) ∧ (i = 2 → 48 ≤ c ∧ c ≤ 57) ∧ (i = 3 → c = 32) ∧ (4 ≤ i → i < 4 + n → 48 ≤ c ∧ c ≤ 57) ∧ (i = 4 + n → c = 32) ∧ (i = 7 + n ∨ i = 8 + n → c < 48 ∨ 57 < c)
def P10 (T i c : Nat) : Prop := (i = 0 → c = 49) ∧ (i = 1 → 48 ≤ c ∧ c ≤ 38 + T) ∧ (i = 2 → c = 32)
theorem P9.up {T T' n i c : Nat} (h : P9 T n i c) (hT : T ≤ T') : P9 T' n i c := ⟨fun e => by have := h.1 e; omega, h.2⟩
theorem P10.up {T T' i c : Nat} (h : P10 T i c) (hT : T ≤ T') : P10 T' i c := ⟨h.1, fun e => by have := h.2.1 e; omega, h.2.2⟩
theorem QP {f : Fr} {T : Nat} (ht : 1 ≤ f.turn ∧ f.turn ≤ T) (h9 : T ≤ 9) (hr : 1 ≤ f.tries ∧ f.tries ≤ 9) (hp : 0 ≤ f.place) (hc : 0 ≤ f.cell ∧ f.cell ≤ 19) {i : Nat} {c : UInt8} (h : (fl f)[i]? = some c) : P9 T (itoa f.place).length i c.toNat := by
  obtain ⟨a, ea, ha⟩ := x9 (n := f.turn) (by omega)
  obtain ⟨b, eb, hb⟩ := x9 (n := f.tries) (by omega)
  obtain ⟨m, em, hm⟩ := zM f.last
  have hf := dh hp
  rw [nH, hdrL, ea, eb, em] at h
  generalize itoa f.place = pd at h hf
  simp only [List.cons_append, List.nil_append, List.append_assoc] at h
  rcases i with _ | _ | _ | _ | k
  · simp at h; subst h; refine ⟨fun _ => by omega, ?_, ?_, ?_, ?_, ?_, ?_⟩ <;> intros <;> omega
  · simp at h; subst h; refine ⟨?_, fun _ => by decide, ?_, ?_, ?_, ?_, ?_⟩ <;> intros <;> omega
  · simp at h; subst h; refine ⟨?_, ?_, fun _ => by omega, ?_, ?_, ?_, ?_⟩ <;> intros <;> omega
  · simp at h; subst h; refine ⟨?_, ?_, ?_, fun _ => by decide, ?_, ?_, ?_⟩ <;> intros <;> omega
  · simp only [List.getElem?_cons_succ] at h
    rcases Nat.lt_trichotomy k pd.length with hk | hk | hk
    · rw [List.getElem?_append_left hk] at h
      have := hf c (List.mem_of_getElem? h)
      refine ⟨?_, ?_, ?_, ?_, fun _ _ => this, ?_, ?_⟩ <;> intros <;> omega
    · rw [hk, List.getElem?_append_right (Nat.le_refl _), Nat.sub_self] at h
      simp at h; subst h
      refine ⟨?_, ?_, ?_, ?_, ?_, fun _ => by decide, ?_⟩ <;> intros <;> omega
    · refine ⟨?_, ?_, ?_, ?_, ?_, ?_, fun hi => ?_⟩
      iterate 6 (intros; omega)
      rw [List.getElem?_append_right (by omega)] at h
      by_cases h19 : f.cell ≤ 9
      · obtain ⟨e, ee, _⟩ := x9 (n := f.cell) (by omega)
        rw [ee] at h
        simp only [List.cons_append, List.nil_append] at h
        rcases hi with hi | hi
        · rw [show k - pd.length = 3 by omega] at h; simp at h; subst h; exact hm
        · rw [show k - pd.length = 4 by omega] at h; simp at h; subst h; exact .inl (by decide)
      · obtain ⟨e, e', ee, _⟩ := tu (n := f.cell) (by omega)
        rw [ee] at h
        simp only [List.cons_append, List.nil_append] at h
        rcases hi with hi | hi
        · rw [show k - pd.length = 3 by omega] at h; simp at h; subst h; exact .inl (by decide)
        · rw [show k - pd.length = 4 by omega] at h; simp at h; subst h; exact hm
theorem Qk {f : Fr} {T : Nat} (ht : 10 ≤ f.turn ∧ f.turn ≤ T) (h9 : T ≤ 19) {i : Nat} {c : UInt8} (h : (fl f)[i]? = some c) : P10 T i c.toNat := by
  obtain ⟨a, b, ea, ha, hb⟩ := tu (n := f.turn) (by omega)
  rw [nH, ea] at h
  simp only [List.cons_append, List.nil_append] at h
  rcases i with _ | _ | _ | k
  · simp at h; subst h; refine ⟨fun _ => by omega, ?_, ?_⟩ <;> intros <;> omega
  · simp at h; subst h; refine ⟨?_, fun _ => by omega, ?_⟩ <;> intros <;> omega
  · simp at h; subst h; refine ⟨?_, ?_, fun _ => by decide⟩ <;> intros <;> omega
  · refine ⟨?_, ?_, ?_⟩ <;> intros <;> omega
def Inv (T n : Nat) (x : List UInt8) : Prop := ∃ j, (T ≤ 9 → j = 0) ∧ ∀ i c, x[i]? = some c → (i < j → P10 T i c.toNat) ∧ (j ≤ i → P9 (min T 9) n i c.toNat)
def tear (F : List UInt8) (b : Nat) (x : List UInt8) : List UInt8 := F.take b ++ x.drop b
theorem lF {F x : List UInt8} {b i : Nat} (h : b ≤ F.length) : (tear F b x)[i]? = if i < b then F[i]? else x[i]? := by
  unfold tear
  by_cases hi : i < b
  · rw [if_pos hi, List.getElem?_append_left (by simp; omega), List.getElem?_take_of_lt hi]
  · rw [if_neg hi, List.getElem?_append_right (by simp; omega), List.getElem?_drop, List.length_take, Nat.min_eq_left h, show b + (i - b) = i by omega]
theorem Inv.up {T T' n : Nat} {x : List UInt8} (h : Inv T n x) (hT : T ≤ T') : Inv T' n x := by
  obtain ⟨j, h1, h2⟩ := h
  exact ⟨j, fun e => h1 (by omega), fun i c hi => ⟨fun hj => ((h2 i c hi).1 hj).up hT, fun hj => ((h2 i c hi).2 hj).up (by omega)⟩⟩
theorem Inv.nil (T n : Nat) : Inv T n [] := ⟨0, fun _ => rfl, fun i c h => by simp at h⟩
theorem Inv.tear {f : Fr} {T T0 n : Nat} {x : List UInt8} {b : Nat} (h : Inv T0 n x) (hT0 : T0 ≤ T) (hT : T ≤ 19) (ht : f.turn = T) (h1 : 1 ≤ T) (hr : 1 ≤ f.tries ∧ f.tries ≤ 9) (hp : 0 ≤ f.place) (hn : (itoa f.place).length = n) (hc : 0 ≤ f.cell ∧ f.cell ≤ 19) (hb : b ≤ (fl f).length) : Inv T n (tear (fl f) b x) := by
  obtain ⟨j, e1, e2⟩ := h
  by_cases h9 : T ≤ 9
  · refine ⟨0, fun _ => rfl, fun i c hi => ⟨fun e => absurd e (Nat.not_lt_zero _), fun _ => ?_⟩⟩
    rw [lF hb] at hi
    rw [Nat.min_eq_left h9]
    split at hi
    · exact hn ▸ QP (by omega) h9 hr hp hc hi
    · exact ((e2 i c hi).2 (by rw [e1 (by omega)]; exact Nat.zero_le _)).up (by omega)
  · refine ⟨max b j, fun e => absurd e h9, fun i c hi => ?_⟩
    rw [lF hb] at hi
    split at hi
    · exact ⟨fun _ => Qk (by omega) hT hi, fun e => by omega⟩
    · exact ⟨fun e => ((e2 i c hi).1 (by omega)).up (by omega), fun e => ((e2 i c hi).2 (by omega)).up (by omega)⟩
theorem Inv.whole {f : Fr} {T n : Nat} (hT : T ≤ 19) (ht : f.turn = T) (h1 : 1 ≤ T) (hr : 1 ≤ f.tries ∧ f.tries ≤ 9) (hp : 0 ≤ f.place) (hn : (itoa f.place).length = n) (hc : 0 ≤ f.cell ∧ f.cell ≤ 19) : Inv T n (fl f) := by
  have := Inv.tear (x := []) (b := (fl f).length) (Inv.nil T n) (Nat.le_refl _) hT ht h1 hr hp hn hc (Nat.le_refl _)
  unfold Go.Pv.tear at this
  simpa using this
theorem Gp {g : Fr} {n : Nat} (hg : FrIn g) (h3 : 100 ≤ g.turn) (hn : (itoa g.place).length = n) (hn2 : n = 1 ∨ n = 2) (h : ∀ i c, 2 ≤ i → (fl g)[i]? = some c → P9 9 n i c.toNat) : False := by
  obtain ⟨⟨t1, t2⟩, ⟨r1, r2⟩, ⟨p1, p2⟩, ⟨c1, c2⟩, _⟩ := hg
  have hft := dh (n := g.turn) (by omega)
  have hfr := dh (n := g.tries) (by omega)
  have hfp := dh p1
  have hl3 := CO h3
  have e := nH g
  unfold hdrL at e
  simp only [List.append_assoc, List.cons_append] at e
  obtain ⟨Q, hQ⟩ : ∃ Q, fl g = itoa g.turn ++ 32 :: Q := ⟨_, e⟩
  have ht : (itoa g.turn).length = 3 := by
    refine Gn (c := 32) (r := Q) (n := 3) hft n32 (fun i hi d hd => ?_) (fun d hd => ?_)
    · rw [List.getElem?_append_left (by omega)] at hd
      exact hft d (List.mem_of_getElem? hd)
    · rw [← hQ] at hd
      have := (h 3 d (by omega) hd).2.2.2.1 rfl
      exact yK (by omega)
  obtain ⟨R, hR⟩ : ∃ R, R = itoa g.place ++ 32 :: (itoa g.cell ++ 32 :: ((gJ g.last).data.toList ++ 32 :: (itoa g.text.size ++ 58 :: (g.text.data.toList ++ 58 :: (itoa g.turn ++ 46 :: (itoa g.tries ++ [59])))))) := ⟨_, rfl⟩
  rw [← hR] at e
  have e4 : ∀ i, (fl g)[4 + i]? = (itoa g.tries ++ 32 :: R)[i]? := fun i => by
    rw [e, List.getElem?_append_right (by omega), ht, show 4 + i - 3 = i + 1 by omega, List.getElem?_cons_succ]
  have hr : (itoa g.tries).length = n := by
    refine Gn (c := 32) (n := n) (r := R) hfr n32 (fun i hi d hd => ?_) (fun d hd => ?_)
    · rw [← e4] at hd
      exact (h _ d (by omega) hd).2.2.2.2.1 (by omega) (by omega)
    · rw [← e4] at hd
      have := (h _ d (by omega) hd).2.2.2.2.2.1 rfl
      exact yK (by omega)
  have e5 : ∀ i, (fl g)[5 + n + i]? = R[i]? := fun i => by
    rw [show 5 + n + i = 4 + (n + 1 + i) by omega, e4, List.getElem?_append_right (by omega), hr, show n + 1 + i - n = i + 1 by omega, List.getElem?_cons_succ]
  have hcne := yL g.cell c1
  have hfc := dh c1
  obtain ⟨d, ds, hd⟩ := List.exists_cons_of_ne_nil hcne
  have e6 : (fl g)[5 + n + (n + 1)]? = some d := by
    rw [e5, hR, List.getElem?_append_right (by omega), hn, show n + 1 - n = 0 + 1 by omega, List.getElem?_cons_succ, hd]
    rfl
  have := hfc d (by rw [hd]; exact List.mem_cons_self ..)
  have := (h _ d (by omega) e6).2.2.2.2.2.2 (by omega)
  omega
theorem Inv.frame {g : Fr} {T n : Nat} (h : Inv T n (fl g)) (hT : T ≤ 19) (hg : FrIn g) (hn : (itoa g.place).length = n) (hn2 : n = 1 ∨ n = 2) : g.turn ≤ T := by
  obtain ⟨j, h1, h2⟩ := h
  have e := nH g
  obtain ⟨⟨t1, t2⟩, _⟩ := id hg
  by_cases c1 : g.turn ≤ 9
  · obtain ⟨a, ea, ha⟩ := x9 (n := g.turn) (by omega)
    rw [ea] at e
    have h0 := h2 0 a (by rw [e]; rfl)
    by_cases hj : 0 < j
    · have := (h0.1 hj).1 rfl
      have : ¬ T ≤ 9 := fun e => by have := h1 e; omega
      omega
    · have := (h0.2 (by omega)).1 rfl
      omega
  · by_cases c2 : g.turn ≤ 99
    · obtain ⟨a, b, ea, ha, hb⟩ := tu (n := g.turn) (by omega)
      rw [ea] at e
      have h0 := h2 0 a (by rw [e]; rfl)
      have h01 := h2 1 b (by rw [e]; rfl)
      have hj : 1 < j := by
        rcases Nat.lt_or_ge 1 j with hj | hj
        · exact hj
        · have := (h01.2 hj).2.1 rfl
          omega
      have := (h0.1 (by omega)).1 rfl
      have := (h01.1 hj).2.1 rfl
      omega
    · exfalso
      have hl := CO (n := g.turn) (by omega)
      have hf := dh (n := g.turn) (by omega)
      obtain ⟨a, b, c, l, el⟩ : ∃ a b c l, itoa g.turn = a :: b :: c :: l := by
        generalize itoa g.turn = tt at hl ⊢
        rcases tt with _ | ⟨a, _ | ⟨b, _ | ⟨c, l⟩⟩⟩
        · simp at hl
        · simp at hl
        · simp at hl
        · exact ⟨a, b, c, l, rfl⟩
      rw [el] at e hf
      have g1 := hf b (by simp)
      have g2 := hf c (by simp)
      have h01 := h2 1 b (by rw [e]; rfl)
      have h02 := h2 2 c (by rw [e]; rfl)
      have hj : 1 < j := by
        rcases Nat.lt_or_ge 1 j with hj | hj
        · exact hj
        · have := (h01.2 hj).2.1 rfl
          omega
      have hj2 : j ≤ 2 := by
        rcases Nat.lt_or_ge 2 j with hj | hj
        · have := (h02.1 hj).2.2 rfl
          omega
        · exact hj
      exact Gp hg (by omega) hn hn2 fun i c hi hc => ((h2 i c hc).2 (by omega)).up (by omega)
end Go.Pv
set_option linter.unusedVariables false
set_option linter.unusedSimpArgs false
namespace Go.Pv
open Go.Lib
def txL : List (List UInt8) := [[], [97], [98, 98], [112, 97, 103, 101], [58, 49, 46, 49, 59], [72, 50, 46, 50, 59], [49, 32, 49, 32, 48, 32, 48, 32, 33, 32, 49, 58, 120, 58, 49, 46, 49, 59],
  [108, 111, 110, 103, 32, 116, 101, 120, 116, 32, 116, 104, 97, 116, 32, 105, 115, 32, 108, 111, 110, 103, 101, 114, 32, 116, 104, 97, 110, 32, 111, 116, 104, 101, 114, 115],
  [48, 49, 50, 51, 52, 53, 54, 55, 56, 57], [97, 98, 99, 100, 101, 102, 103, 104, 105, 106]]
structure FrW (f : Fr) : Prop where
  ok : FrIn f
  turn : f.turn ≤ 19
  text : f.text.data.toList ∈ txL
theorem uB {b : UInt8} : ∀ {x y r s : List UInt8}, Free b x → Free b y → x ++ b :: r = y ++ b :: s → x = y ∧ r = s
  | [], [], r, s, _, _, h => by simpa using h
  | [], c :: y, r, s, _, hy, h => by
    simp only [List.nil_append, List.cons_append, List.cons.injEq] at h
    exact absurd h.1.symm (hy c (List.mem_cons_self ..))
  | c :: x, [], r, s, hx, _, h => by
    simp only [List.nil_append, List.cons_append, List.cons.injEq] at h
    exact absurd h.1 (hx c (List.mem_cons_self ..))
  | c :: x, d :: y, r, s, hx, hy, h => by
    simp only [List.cons_append, List.cons.injEq] at h
    have := uB hx.tail hy.tail h.2
    exact ⟨by rw [h.1, this.1], this.2⟩
theorem Gq {f : Fr} (h : FrIn f) : Free 58 (hdrL f) := by
  obtain ⟨_, ⟨r1, _⟩, ⟨p1, _⟩, ⟨c1, _⟩, _⟩ := h
  exact (aP (by omega) (.inr (by decide))).app (.cons (by decide) ((aP p1 (.inr (by decide))).app (.cons (by decide) ((aP c1 (.inr (by decide))).app (.cons (by decide)
    ((lY f.last (by decide) (by decide)).app (.cons (by decide) (aP (by omega) (.inr (by decide))))))))))
theorem Iy {f : Fr} (h : FrIn f) : Free 59 (hdrL f) := by
  obtain ⟨_, ⟨r1, _⟩, ⟨p1, _⟩, ⟨c1, _⟩, _⟩ := h
  exact (aP (by omega) (.inr (by decide))).app (.cons (by decide) ((aP p1 (.inr (by decide))).app (.cons (by decide) ((aP c1 (.inr (by decide))).app (.cons (by decide)
    ((lY f.last (by decide) (by decide)).app (.cons (by decide) (aP (by omega) (.inr (by decide))))))))))
theorem OT {f g : Fr} (hf : FrIn f) (hg : FrIn g) (h : hdrL f = hdrL g) : f.tries = g.tries ∧ f.text.size = g.text.size := by
  obtain ⟨_, ⟨r1, r2⟩, ⟨p1, _⟩, ⟨c1, _⟩, s1⟩ := hf
  obtain ⟨_, ⟨r1', r2'⟩, ⟨p1', _⟩, ⟨c1', _⟩, s1'⟩ := hg
  unfold hdrL at h
  have e1 := jD n32 n32 (dh (by omega)) (dh (by omega)) h
  have e2 := jD n32 n32 (dh p1) (dh p1') e1.2.2
  have e3 := jD n32 n32 (dh c1) (dh c1') e2.2.2
  obtain ⟨m, em, _⟩ := zM f.last
  obtain ⟨m', em', _⟩ := zM g.last
  have e4 := e3.2.2
  rw [em, em'] at e4
  simp only [List.cons_append, List.nil_append, List.cons.injEq] at e4
  have := qA (by omega) (by omega) e4.2.2
  exact ⟨qA (by omega) (by omega) e1.1, by omega⟩
theorem head_eq {f g : Fr} {a c : UInt8} {u : List UInt8} (hf : FrIn f) (hg : FrIn g) (hgt : itoa g.turn = [a, c]) {l r : List UInt8} (h1 : fl g = a :: (u ++ l)) (hu : 1 + 1 + (hdrL g).length + 1 ≤ u.length) {b : UInt8} (h2 : fl f = b :: (u ++ r)) :
    itoa f.turn = [b, c] ∧ f.tries = g.tries ∧ f.text.size = g.text.size ∧ hdrL f = hdrL g := by
  have e := nH g
  rw [hgt] at e
  simp only [List.cons_append, List.nil_append] at e
  rw [h1] at e
  simp only [List.cons.injEq, true_and] at e
  obtain ⟨R, hR⟩ : ∃ R, R = g.text.data.toList ++ 58 :: a :: c :: 46 :: (itoa g.tries ++ [59]) := ⟨_, rfl⟩
  rw [← hR] at e
  have hu2 : ∃ v, u = c :: 32 :: (hdrL g ++ 58 :: v) := by
    have := congrArg (List.take u.length) e
    rw [List.take_left] at this
    rw [this, show u.length = (u.length - (1 + 1 + (hdrL g).length + 1)) + (hdrL g).length + 1 + 1 + 1 by omega, List.take_succ_cons, List.take_succ_cons, List.take_append, show u.length - (1 + 1 + (hdrL g).length + 1) + (hdrL g).length + 1 - (hdrL g).length = (u.length - (1 + 1 + (hdrL g).length + 1)) + 1 by omega, List.take_succ_cons, List.take_of_length_le (by omega)]
    exact ⟨_, rfl⟩
  obtain ⟨v, rfl⟩ := hu2
  have e2 := nH f
  rw [h2] at e2
  have hft := dh (n := f.turn) (by have := hf.1; omega)
  have hfg := dh (n := g.turn) (by have := hg.1; omega)
  rw [hgt] at hfg
  have hb : Figs [b, c] ∨ ¬ Dig b := by
    by_cases h : Dig b
    · left
      intro z hz
      simp only [List.mem_cons, List.not_mem_nil, or_false] at hz
      rcases hz with rfl | rfl
      · exact h
      · exact hfg _ (by simp)
    · exact .inr h
  rcases hb with hb | hb
  · have e3 : [b, c] ++ 32 :: (hdrL g ++ 58 :: (v ++ r)) = itoa f.turn ++ 32 :: (hdrL f ++ 58 :: (f.text.data.toList ++ 58 :: (itoa f.turn ++ 46 :: (itoa f.tries ++ [59])))) := by
      rw [← e2]
      simp only [List.cons_append, List.nil_append, List.append_assoc]
    have e4 := jD n32 n32 hb hft e3
    have e5 := uB (Gq hg) (Gq hf) e4.2.2
    have e6 := OT hf hg e5.1.symm
    exact ⟨e4.1.symm, e6.1, e6.2, e5.1.symm⟩
  · exfalso
    rcases ht : itoa f.turn with _ | ⟨x, l2⟩
    · exact yL f.turn (by have := hf.1; omega) ht
    · rw [ht] at e2 hft
      simp only [List.cons_append, List.cons.injEq] at e2
      exact hb (e2.1 ▸ hft x (List.mem_cons_self ..))
theorem zN (f : Fr) : (fl f).length = (itoa f.turn).length + 1 + (hdrL f).length + 1 + f.text.size + 1 + (itoa f.turn).length + 1 + (itoa f.tries).length + 1 := by
  rw [nH]
  have := mD f.text
  simp only [List.length_append, List.length_cons, List.length_nil]
  omega
end Go.Pv
set_option linter.unusedVariables false
set_option linter.unusedSimpArgs false
namespace Go.Pv
open Go.Lib
inductive One : List UInt8 → Prop
  | nil : One []
  | mk (f : Fr) (b : Nat) : FrW f → b ≤ (fl f).length → One ((fl f).take b)
inductive Two : List UInt8 → Prop
  | one (x : List UInt8) : One x → Two x
  | mk (f : Fr) (b : Nat) (y : List UInt8) : FrW f → One y → b ≤ (fl f).length → Two (tear (fl f) b y)
theorem zO {l : List UInt8} (h : Figs l) : Figs l.reverse := fun c hc => h c (List.mem_reverse.1 hc)
theorem wC (f : Fr) : (fl f)[(itoa f.turn).length + 1 + (hdrL f).length + 1 + f.text.size + 1]? = (itoa f.turn)[0]? := by
  have ht : f.text.data.toList.length = f.text.size := mD f.text
  rw [nH, List.getElem?_append_right (by omega), show (itoa f.turn).length + 1 + (hdrL f).length + 1 + f.text.size + 1 - (itoa f.turn).length = ((hdrL f).length + 1 + f.text.size + 1) + 1 by omega, List.getElem?_cons_succ,
    List.getElem?_append_right (by omega), show (hdrL f).length + 1 + f.text.size + 1 - (hdrL f).length = (f.text.size + 1) + 1 by omega, List.getElem?_cons_succ, List.getElem?_append_right (by omega), show f.text.size + 1 - f.text.data.toList.length = 0 + 1 by omega, List.getElem?_cons_succ]
  rcases h : itoa f.turn with _ | ⟨x, l⟩
  · unfold itoa at h
    split at h
    · cases h
    · exact absurd h (xq _)
  · rfl
theorem tail_drop (f : Fr) : (fl f).drop ((itoa f.turn).length + 1 + (hdrL f).length + 1 + f.text.size + 1) = itoa f.turn ++ 46 :: (itoa f.tries ++ [59]) := by
  have ht : f.text.data.toList.length = f.text.size := mD f.text
  have e : fl f = (itoa f.turn ++ 32 :: (hdrL f ++ 58 :: (f.text.data.toList ++ [58]))) ++ (itoa f.turn ++ 46 :: (itoa f.tries ++ [59])) := by
    rw [nH]
    simp only [List.append_assoc, List.cons_append, List.nil_append]
  rw [e, List.drop_left']
  simp only [List.length_append, List.length_cons, List.length_nil]
  omega
def Pz : List UInt8 → Bool
  | [] => true
  | a :: l => a != 59 || (match l with | c :: e :: c' :: d :: _ => e == 46 && c' == c && (c == 49 || c == 50) && (d == 58 || d == 72) | _ => false)
theorem OU : ∀ t ∈ txL, ∀ k, k ≤ 40 → ∀ l, (t.take k).reverse = 59 :: l → ∃ c d r, l = c :: 46 :: c :: d :: r ∧ (c = 49 ∨ c = 50) ∧ (d = 58 ∨ d = 72) := by
  have key : (txL.all fun t => (List.range 41).all fun k => Pz (t.take k).reverse) = true := by decide
  intro t ht k hk l h
  have := List.all_eq_true.1 (List.all_eq_true.1 key t ht) k (List.mem_range.2 (by omega))
  rw [h] at this
  unfold Pz at this
  rcases l with _ | ⟨c, _ | ⟨e, _ | ⟨c', _ | ⟨d, r⟩⟩⟩⟩
  · simp at this
  · simp at this
  · simp at this
  · simp at this
  · simp at this
    obtain ⟨⟨⟨rfl, rfl⟩, h1⟩, h2⟩ := this
    exact ⟨_, _, r, rfl, h1, h2⟩
theorem Ql : ∀ t ∈ txL, t.length ≤ 40 := by decide
theorem KI {f : Fr} (h : FrIn f) : Free 59 (itoa f.turn ++ 46 :: itoa f.tries) := by
  obtain ⟨⟨t1, _⟩, ⟨r1, _⟩, _⟩ := h
  exact (aP (by omega) (.inr (by decide))).app (.cons (by decide) (aP (by omega) (.inr (by decide))))
theorem Qm {f : Fr} (hf : FrW f) {b : Nat} {A tr : List UInt8} {a c : UInt8} (ha : a.toNat = 50) (htr : Figs tr) (h : (fl f).take b = A ++ a :: c :: 46 :: (tr ++ [59])) : False := by
  have hfi := hf.ok
  obtain ⟨⟨t1, _⟩, ⟨r1, _⟩, _⟩ := id hf.ok
  have hrev : ((fl f).take b).reverse = 59 :: (tr.reverse ++ 46 :: c :: a :: A.reverse) := by
    rw [h]
    simp only [List.reverse_append, List.reverse_cons, List.reverse_nil, List.nil_append, List.cons_append, List.append_assoc]
  have e := nH f
  obtain ⟨H, hH⟩ : ∃ H, H = itoa f.turn ++ 32 :: hdrL f := ⟨_, rfl⟩
  have hHf : Free 59 H := hH ▸ (aP (by omega) (.inr (by decide))).app (.cons (by decide) (Iy hfi))
  have e2 : fl f = H ++ 58 :: (f.text.data.toList ++ 58 :: (itoa f.turn ++ 46 :: (itoa f.tries ++ [59]))) := by
    rw [e, hH]
    simp only [List.append_assoc, List.cons_append]
  have htx := hf.text
  have hlen : (fl f).length = H.length + 1 + f.text.data.toList.length + 1 + ((itoa f.turn ++ 46 :: itoa f.tries).length + 1) := by
    rw [e2]; simp only [List.length_append, List.length_cons, List.length_nil]; omega
  by_cases hb : (fl f).length ≤ b
  · rw [List.take_of_length_le hb, e2] at hrev
    simp only [List.reverse_append, List.reverse_cons, List.reverse_nil, List.nil_append, List.cons_append, List.append_assoc, List.cons.injEq, true_and] at hrev
    have e3 := jD n46 n46 (zO (dh (by omega))) (zO htr) hrev
    have e4 := e3.2.2
    by_cases h9 : f.turn ≤ 9
    · obtain ⟨d, ed, _⟩ := x9 (n := f.turn) (by omega)
      rw [ed] at e4
      simp only [List.reverse_cons, List.reverse_nil, List.nil_append, List.cons_append, List.cons.injEq] at e4
      rw [← e4.2.1] at ha
      exact absurd ha (by decide)
    · obtain ⟨d, d', ed, hd, _⟩ := tu (n := f.turn) (by have := hf.turn; omega)
      rw [ed] at e4
      simp only [List.reverse_cons, List.reverse_nil, List.nil_append, List.cons_append, List.cons.injEq] at e4
      rw [← e4.2.1] at ha
      have := hf.turn
      omega
  · have h59 : (59 : UInt8) ∈ (fl f).take b := List.mem_reverse.1 (by rw [hrev]; exact List.mem_cons_self ..)
    by_cases h1 : b ≤ H.length
    · rw [e2, List.take_append_of_le_length h1] at h59
      exact hHf _ (List.mem_of_mem_take h59) rfl
    · obtain ⟨k, rfl⟩ : ∃ k, b = H.length + 1 + k := ⟨b - H.length - 1, by omega⟩
      have e5 : (fl f).take (H.length + 1 + k) = H ++ 58 :: (f.text.data.toList ++ 58 :: (itoa f.turn ++ 46 :: (itoa f.tries ++ [59]))).take k := by
        rw [e2, List.take_append, List.take_of_length_le (by omega), show H.length + 1 + k - H.length = k + 1 by omega, List.take_succ_cons]
      by_cases h2 : k ≤ f.text.data.toList.length
      · rw [List.take_append_of_le_length h2] at e5
        rw [e5] at hrev
        simp only [List.reverse_append, List.reverse_cons, List.append_assoc, List.cons_append, List.nil_append] at hrev
        rcases hk : (f.text.data.toList.take k).reverse with _ | ⟨z, l⟩
        · rw [hk] at hrev
          simp only [List.nil_append, List.cons.injEq] at hrev
          exact absurd hrev.1 (by decide)
        · rw [hk] at hrev
          simp only [List.cons_append, List.cons.injEq] at hrev
          obtain ⟨rfl, hrev⟩ := hrev
          obtain ⟨x, d, r, rfl, hx, hd⟩ := OU _ htx k (by have := Ql _ htx; omega) l hk
          have hfx : Figs [x] := fun z hz => by
            rw [List.mem_singleton.1 hz]
            rcases hx with rfl | rfl <;> decide
          have e6 := jD (a := [x]) n46 n46 hfx (zO htr) (by simpa using hrev)
          have e7 := e6.2.2
          simp only [List.cons.injEq] at e7
          rw [← e7.2.1] at ha
          rcases hd with rfl | rfl <;> exact absurd ha (by decide)
      · obtain ⟨k', rfl⟩ : ∃ k', k = f.text.data.toList.length + 1 + k' := ⟨k - f.text.data.toList.length - 1, by omega⟩
        have e6 : (f.text.data.toList ++ 58 :: (itoa f.turn ++ 46 :: (itoa f.tries ++ [59]))).take (f.text.data.toList.length + 1 + k') = f.text.data.toList ++ 58 :: (itoa f.turn ++ 46 :: itoa f.tries).take k' := by
          rw [List.take_append, List.take_of_length_le (by omega), show f.text.data.toList.length + 1 + k' - f.text.data.toList.length = k' + 1 by omega, List.take_succ_cons, show itoa f.turn ++ 46 :: (itoa f.tries ++ [59]) = (itoa f.turn ++ 46 :: itoa f.tries) ++ [59] by simp only [List.append_assoc, List.cons_append], List.take_append_of_le_length (by omega)]
        rw [e6] at e5
        rw [e5] at hrev
        simp only [List.reverse_append, List.reverse_cons, List.append_assoc, List.cons_append, List.nil_append] at hrev
        rcases hk : ((itoa f.turn ++ 46 :: itoa f.tries).take k').reverse with _ | ⟨z, l⟩
        · rw [hk] at hrev
          simp only [List.nil_append, List.cons.injEq] at hrev
          exact absurd hrev.1 (by decide)
        · rw [hk] at hrev
          simp only [List.cons_append, List.cons.injEq] at hrev
          have hz : z ∈ (itoa f.turn ++ 46 :: itoa f.tries).take k' := List.mem_reverse.1 (by rw [hk]; exact List.mem_cons_self ..)
          exact KI hfi z (List.mem_of_mem_take hz) hrev.1
theorem Js {g : Fr} (hg : FrIn g) (h : 20 ≤ g.turn ∧ g.turn ≤ 29) : ∃ a c, itoa g.turn = [a, c] ∧ a.toNat = 50 := by
  obtain ⟨a, c, e, h1, _⟩ := tu (n := g.turn) (by omega)
  exact ⟨a, c, e, by omega⟩
theorem Qn {f g : Fr} (hf : FrW f) (hg : FrIn g) (ht : 20 ≤ g.turn ∧ g.turn ≤ 29) {a x0 : UInt8} {X : List UInt8} {b : Nat} (h1 : fl g = a :: X) (h2 : (fl f).take b = x0 :: X) : False := by
  obtain ⟨a', c, e, ha⟩ := Js hg ht
  have hlg := zN g
  have hgt := wC g
  rw [e] at hlg hgt
  have ea : a = a' := by
    have := nH g
    rw [e, h1] at this
    simp only [List.cons_append, List.cons.injEq] at this
    exact this.1
  subst ea
  simp only [List.length_cons, List.length_nil] at hlg hgt
  have hX : (fl g).length = X.length + 1 := by rw [h1]; rfl
  have hfx : fl f = x0 :: (X ++ (fl f).drop b) := by
    rw [← List.cons_append, ← h2, List.take_append_drop]
  have hh := head_eq hf.ok hg e (u := X) (l := []) (r := (fl f).drop b) (by rw [List.append_nil]; exact h1) (by omega) hfx
  have hlf := zN f
  have hft := wC f
  rw [hh.1, hh.2.2.1, hh.2.2.2, hh.2.1] at hlf
  rw [hh.1, hh.2.2.1, hh.2.2.2] at hft
  simp only [List.length_cons, List.length_nil] at hlf hft
  rw [h1] at hgt
  rw [hfx] at hft
  rw [show 0 + 1 + 1 + 1 + (hdrL g).length + 1 + g.text.size + 1 = (1 + 1 + (hdrL g).length + 1 + g.text.size + 1) + 1 by omega, List.getElem?_cons_succ] at hgt hft
  rw [List.getElem?_append_left (by omega)] at hft
  have e2 := hft.symm.trans hgt
  simp at e2
  have : itoa f.turn = itoa g.turn := by rw [hh.1, e, e2]
  have := qA (by have := hf.ok.1; omega) (by have := hg.1; omega) this
  have := hf.turn
  omega
theorem OV {g : Fr} (hg : FrIn g) (ht : 20 ≤ g.turn ∧ g.turn ≤ 29) {a x0 : UInt8} {X : List UInt8} (h1 : fl g = a :: X) (h2 : Two (x0 :: X)) : False := by
  obtain ⟨a', c, e, ha⟩ := Js hg ht
  have ea : a = a' := by
    have := nH g
    rw [e, h1] at this
    simp only [List.cons_append, List.cons.injEq] at this
    exact this.1
  subst ea
  have hlg := zN g
  have hgt := wC g
  have hgd := tail_drop g
  rw [e] at hlg hgt hgd
  simp only [List.length_cons, List.length_nil] at hlg hgt hgd
  have hX : (fl g).length = X.length + 1 := by rw [h1]; rfl
  have hfr := dh (n := g.tries) (by have := hg.2.1; omega)
  generalize hx : x0 :: X = x at h2
  cases h2 with
  | one x h =>
    cases h with
    | nil => cases hx
    | mk f b hf hb => exact Qn hf hg ht h1 hx.symm
  | mk f b y hf hy hb =>
    obtain ⟨q, hq⟩ : ∃ q, q = 0 + 1 + 1 + 1 + (hdrL g).length + 1 + g.text.size + 1 := ⟨_, rfl⟩
    rw [← hq] at hgt hgd
    have hget : ∀ i, (x0 :: X)[i]? = if i < b then (fl f)[i]? else y[i]? := fun i => by rw [hx, lF hb]
    by_cases hqb : q < b
    · have hfx : fl f = x0 :: (X.take (b - 1) ++ (fl f).drop b) := by
        have h3 : (fl f).take b = (x0 :: X).take b := by
          rw [hx]
          unfold tear
          rw [List.take_append_of_le_length (by rw [List.length_take]; omega), List.take_take, Nat.min_self]
        conv => lhs; rw [← List.take_append_drop b (fl f), h3]
        rw [show b = (b - 1) + 1 by omega, List.take_succ_cons]
        simp
      have hbX : b - 1 ≤ X.length := by
        have := congrArg List.length hx
        unfold tear at this
        simp only [List.length_append, List.length_take, List.length_cons] at this
        omega
      have hh := head_eq hf.ok hg e (u := X.take (b - 1)) (l := X.drop (b - 1)) (r := (fl f).drop b) (by rw [List.take_append_drop]; exact h1) (by rw [List.length_take]; omega) hfx
      have hft := wC f
      rw [hh.1, hh.2.2.1, hh.2.2.2] at hft
      simp only [List.length_cons, List.length_nil] at hft
      rw [← hq] at hft
      have h4 := hget q
      rw [if_pos hqb, hft] at h4
      rw [h1] at hgt
      rw [show q = (q - 1) + 1 by omega, List.getElem?_cons_succ] at h4 hgt
      have e2 := h4.symm.trans hgt
      simp at e2
      have : itoa f.turn = itoa g.turn := by rw [hh.1, e, e2]
      have := qA (by have := hf.ok.1; omega) (by have := hg.1; omega) this
      have := hf.turn
      omega
    · have h5 : y.drop q = [a, c] ++ 46 :: (itoa g.tries ++ [59]) := by
        rw [← hgd]
        refine List.ext_getElem? fun i => ?_
        rw [List.getElem?_drop, List.getElem?_drop]
        have h4 := hget (q + i)
        rw [if_neg (by omega)] at h4
        rw [← h4, h1, show q + i = (q + i - 1) + 1 by omega, List.getElem?_cons_succ, List.getElem?_cons_succ]
      cases hy with
      | nil => simp at h5
      | mk f' b' hf' hb' =>
        refine Qm hf' (b := b') (A := ((fl f').take b').take q) ha hfr (c := c) ?_
        have := List.take_append_drop q ((fl f').take b')
        rw [h5] at this
        simpa using this.symm
theorem OW {f g : Fr} {n b : Nat} {x : List UInt8} (hf : FrIn f) (ht : 20 ≤ f.turn ∧ f.turn ≤ 29) (hg : FrIn g) (hn : (itoa g.place).length = n) (hn2 : n = 1 ∨ n = 2) (hb : b ≤ (fl f).length) (hI : Inv 19 n x) (hT : Two x) (h : fl g = tear (fl f) b x) : g.turn ≤ f.turn := by
  obtain ⟨z, z', ez, hz, hz'⟩ := tu (n := f.turn) (by omega)
  have hget : ∀ i, (fl g)[i]? = if i < b then (fl f)[i]? else x[i]? := fun i => by rw [h, lF hb]
  have ef := nH f
  rw [ez] at ef
  simp only [List.cons_append, List.nil_append] at ef
  have eg := nH g
  have hfg := dh (n := g.turn) (by have := hg.1; omega)
  rcases Nat.eq_zero_or_pos b with rfl | hb0
  · have : fl g = x := by rw [h]; unfold tear; simp
    have := Inv.frame (T := 19) (this ▸ hI) (by omega) hg hn hn2
    omega
  have g0 := hget 0
  rw [if_pos hb0, ef] at g0
  by_cases c1 : g.turn ≤ 9
  · omega
  by_cases c2 : g.turn ≤ 99
  · obtain ⟨a, c, eac, ha, hc⟩ := tu (n := g.turn) (by omega)
    rw [eac] at eg
    simp only [List.cons_append, List.nil_append] at eg
    rw [eg] at g0
    simp at g0
    subst g0
    by_cases hb1 : b = 1
    · subst hb1
      rcases x with _ | ⟨x0, X⟩
      · have := congrArg List.length h
        unfold tear at this
        rw [eg] at this
        simp at this
        omega
      · exact (OV hg (by omega) (a := a) (X := X) (by rw [h]; unfold tear; rw [ef]; rfl) hT).elim
    · have g1 := hget 1
      rw [if_pos (by omega), ef, eg] at g1
      simp at g1
      subst g1
      omega
  · exfalso
    have hl := CO (n := g.turn) (by omega)
    obtain ⟨a, c, d, l, el⟩ : ∃ a c d l, itoa g.turn = a :: c :: d :: l := by
      generalize itoa g.turn = tt at hl ⊢
      rcases tt with _ | ⟨a, _ | ⟨b, _ | ⟨c, l⟩⟩⟩
      · simp at hl
      · simp at hl
      · simp at hl
      · exact ⟨a, b, c, l, rfl⟩
    rw [el] at eg hfg
    have k1 := hfg c (by simp)
    have k2 := hfg d (by simp)
    have g1 := hget 1
    have g2 := hget 2
    rw [eg] at g1 g2
    simp only [List.cons_append, List.getElem?_cons_succ, List.getElem?_cons_zero] at g1 g2
    have hb3 : b ≤ 2 := by
      rcases Nat.lt_or_ge 2 b with hb3 | hb3
      · rw [if_pos hb3, ef] at g2
        simp at g2
        subst g2
        exact absurd k2 (by decide)
      · exact hb3
    rw [if_neg (by omega)] at g2
    obtain ⟨j, j1, j2⟩ := hI
    have hj2 : j ≤ 2 := by
      rcases Nat.lt_or_ge 2 j with hj | hj
      · have := ((j2 2 d g2.symm).1 hj).2.2 rfl
        omega
      · exact hj
    refine Gp hg (by omega) hn hn2 fun i e hi he => ?_
    rw [hget, if_neg (by omega)] at he
    exact ((j2 i e he).2 (by omega)).up (by omega)
end Go.Pv
