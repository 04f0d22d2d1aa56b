import Derived.Test.YtepihebkdnmppaaxAg0
import Derived.Test.YtepihebkdnmppaaxAg1
import Derived.Test.YtepihebkdnmppaaxAg2
import Derived.Test.YtepihebkdnmppaaxAg3
import Derived.Test.YtepihebkdnmppaaxAg4
import Derived.Test.YtepihebkdnmppaaxAg5
import Derived.Test.YtepihebkdnmppaaxAg6
import Derived.Test.YtepihebkdnmppaaxAg7
import Derived.Test.YtepihebkdnmppaaxAg8
import Derived.Laws.Bits64
/- The plain side: what the printed Lean functions come to. Own work of this session, written out of templates by plain.py. -/
namespace Go.Proofs.Ytepihebkdnmppaa.Ag
open Go.RowKit Go.Proofs.YtepihebkdnmppaaV.PrintWords Go.Proofs.YtepihebkdnmppaaV.PrintLast Go.Proofs.YtepihebkdnmppaaV.PrintMore
set_option linter.unusedVariables false
set_option linter.unusedSimpArgs false

/-- From some rounds on f tells one answer, and P holds of it. -/
def Tot {α : Type} (P : α → Prop) (f : Nat → Option α) : Prop := ∃ K r, P r ∧ ∀ k, K ≤ k → f k = some r
theorem Tot.ret {α : Type} {P : α → Prop} {r : α} (h : P r) : Tot P (fun _ => some r) := ⟨0, r, h, fun _ _ => rfl⟩
theorem Tot.bind {α β : Type} {P : α → Prop} {Q : β → Prop} {f : Nat → Option α} {g : Nat → α → Option β} (hf : Tot P f) (hg : ∀ r, P r → Tot Q (fun k => g k r)) : Tot Q (fun k => (f k).bind (g k)) := by
  obtain ⟨K1, r, hr, h1⟩ := hf
  obtain ⟨K2, s, hs, h2⟩ := hg r hr
  refine ⟨max K1 K2, s, hs, fun k hk => ?_⟩
  show (f k).bind (g k) = some s
  rw [h1 k (by omega)]
  exact h2 k (by omega)
theorem Tot.mono {α : Type} {P Q : α → Prop} {f : Nat → Option α} (hf : Tot P f) (h : ∀ r, P r → Q r) : Tot Q f := by
  obtain ⟨K1, r, hr, h1⟩ := hf
  exact ⟨K1, r, h r hr, h1⟩
theorem Tot.succ {α : Type} {P : α → Prop} {f : Nat → Option α} (h : Tot P (fun k => f (k + 1))) : Tot P f := by
  obtain ⟨K1, r, hr, h1⟩ := h
  refine ⟨K1 + 1, r, hr, fun k hk => ?_⟩
  obtain ⟨j, rfl⟩ : ∃ j, k = j + 1 := ⟨k - 1, by omega⟩
  exact h1 j (by omega)
theorem Tot.congr {α : Type} {P : α → Prop} {f g : Nat → Option α} (h : Tot P g) (e : ∀ k, f k = g k) : Tot P f := by
  obtain rfl : f = g := funext e
  exact h
theorem Tot.of {α : Type} {P : α → Prop} {f : Nat → Option α} {r : α} (e : ∀ k, f k = some r) (h : P r) : Tot P f := ⟨0, r, h, fun k _ => e k⟩
theorem Tot.it {α : Type} {P : α → Prop} {f : Nat → Option α} (h : Tot P f) : ∃ k r, f k = some r ∧ P r := by
  obtain ⟨K1, r, hr, h1⟩ := h
  exact ⟨K1, r, h1 K1 (Nat.le_refl _), hr⟩
theorem w64 (n : Int) (h : -9223372036854775808 ≤ n) (h' : n ≤ 9223372036854775807) : wrap64 n = n := by unfold wrap64; omega
theorem rdOf_nat {α : Type} (d : α) (xs : List α) (i : Nat) : rdOf d xs (i : Int) = xs.getD i d := rfl
theorem drop_cons {α : Type} (d : α) (xs : List α) (i : Nat) (h : i < xs.length) : xs.drop i = xs.getD i d :: xs.drop (i + 1) := by
  rw [List.drop_eq_getElem_cons h, List.getD_eq_getElem?_getD, List.getElem?_eq_getElem h]; rfl
theorem wrap_succ (i : Nat) (h : i < 1000000000000) : wrap64 ((i : Int) + 1) = ((i + 1 : Nat) : Int) := by rw [w64 _ (by omega) (by omega)]; omega

/-! Draws -/
theorem bits_xor_nat (a b : Nat) (ha : a < 2 ^ 62) (hb : b < 2 ^ 62) : bits .xor .i64 a b = ((a ^^^ b : Nat) : Int) := by
  have ha' : a % 2 ^ 64 = a := Nat.mod_eq_of_lt (by omega)
  have hb' : b % 2 ^ 64 = b := Nat.mod_eq_of_lt (by omega)
  have hx := Nat.xor_lt_two_pow ha hb
  have e : (BitVec.ofNat 64 a ^^^ BitVec.ofNat 64 b).toNat = a ^^^ b := by rw [BitVec.toNat_xor, BitVec.toNat_ofNat, BitVec.toNat_ofNat, ha', hb']
  show IntKind.i64.wrap ((BitVec.ofInt 64 (a : Int) ^^^ BitVec.ofInt 64 (b : Int)).toNat : Int) = _
  rw [BitVec.ofInt_natCast, BitVec.ofInt_natCast, e, IntKind.wrap_i64]; omega
theorem xor_nonneg {a b : Int} (ha : 0 ≤ a) (ha' : a < 2 ^ 62) (hb : 0 ≤ b) (hb' : b < 2 ^ 62) : 0 ≤ bits .xor .i64 a b := by
  obtain ⟨x, rfl⟩ := Int.eq_ofNat_of_zero_le ha
  obtain ⟨y, rfl⟩ := Int.eq_ofNat_of_zero_le hb
  rw [bits_xor_nat x y (by omega) (by omega)]; omega
/-- Numbers of a code: bytes, at most 2000 of them. -/
def Code (s : List Int) : Prop := s.length ≤ 2000 ∧ ∀ i : Int, 0 ≤ rd s i ∧ rd s i ≤ 255
theorem code_of {s : List Int} (h : ∀ x ∈ s, (Lit.int .u8 x).wf = true) (hl : s.length ≤ 2000) : Code s := by
  refine ⟨hl, fun i => ?_⟩
  unfold rd
  by_cases hi : i.toNat < s.length
  · rw [List.getD_eq_getElem?_getD, List.getElem?_eq_getElem hi]
    have hx := h s[i.toNat] (List.getElem_mem hi)
    simp [Lit.wf, IntKind.min, IntKind.max, IntKind.signed, IntKind.bits] at hx
    simp; omega
  · rw [List.getD_eq_getElem?_getD, List.getElem?_eq_none (by omega)]
    simp
theorem tmod_in {a n : Int} (ha : 0 ≤ a) (hn : 1 ≤ n) : 0 ≤ Int.tmod a n ∧ Int.tmod a n < n :=
  ⟨Int.tmod_nonneg n ha, Int.tmod_lt_of_pos a (by omega)⟩
/-! The disk -/
theorem less_eq (n : Int) (h : -1 ≤ n) (h' : n < 9223372036854775808) : spec_l7Less.f n = some (lessP n) := by
  unfold spec_l7Less.f lessP mx mn
  rw [w64 _ (by omega) (by omega)]
  by_cases h0 : n > 0
  · rw [if_pos h0]; congr 1; (repeat' split) <;> omega
  · rw [if_neg h0]; congr 1; (repeat' split) <;> omega
theorem wait_eq (x : S70) : spec_l7Wait.f x.f0 x.f1 = some (!impl_DiskOk.W.p x) := by
  unfold spec_l7Wait.f spec_l1In.f impl_DiskOk.W.p
  by_cases h0 : x.f0 ≥ 0
  · by_cases h1 : x.f0 ≤ 41
    · by_cases h2 : (x.f1.size : Int) ≤ 1200
      · have h3 : ¬ (1200 : Int) < x.f1.size := by omega
        simp [h0, h1, h2, h3]
      · have h3 : (1200 : Int) < x.f1.size := by omega
        simp [h0, h1, h2, h3]
    · simp [h0, h1]
  · simp [h0]
theorem ok_l1 (c : List ByteArray) (w : List S70) (r l : Int) (hw : w.length < 1000000000) (n : Nat) : ∀ i : Nat, w.length - i = n → Tot (· = (!(w.drop i).any impl_DiskOk.W.p)) (fun k => spec_l7Ok.l1 k i c w r l) := by
  induction n with
  | zero =>
    intro i hn
    apply Tot.succ
    simp only [spec_l7Ok.l1, if_neg (show ¬ (i : Int) < (w.length : Int) by omega)]
    rw [List.drop_of_length_le (by omega)]
    exact Tot.ret rfl
  | succ n ih =>
    intro i hn
    apply Tot.succ
    have e : rd_T70 w (i : Int) = w.getD i z70 := rfl
    simp only [spec_l7Ok.l1, if_pos (show (i : Int) < (w.length : Int) by omega), if_pos (show (0 : Int) ≤ (i : Int) by omega), wait_eq, Option.bind_some, e]
    rw [drop_cons z70 w i (by omega), List.any_cons]
    cases hp : impl_DiskOk.W.p (w.getD i z70) with
    | true => exact Tot.ret rfl
    | false =>
      simp only [Bool.not_false, if_true, Bool.false_or, wrap_succ i (by omega)]
      exact ih (i + 1) (by omega)
theorem ok_l0 (c : List ByteArray) (w : List S70) (r l : Int) (hc : c.length < 1000000000) (hw : w.length < 1000000000) (n : Nat) : ∀ i : Nat, c.length - i = n → Tot (· = (!(c.drop i).any impl_DiskOk.C.p && !w.any impl_DiskOk.W.p)) (fun k => spec_l7Ok.l0 k i c w r l) := by
  induction n with
  | zero =>
    intro i hn
    apply Tot.succ
    simp only [spec_l7Ok.l0, if_neg (show ¬ (i : Int) < (c.length : Int) by omega)]
    rw [List.drop_of_length_le (by omega)]
    exact ok_l1 c w r l hw _ 0 rfl
  | succ n ih =>
    intro i hn
    apply Tot.succ
    simp only [spec_l7Ok.l0, if_pos (show (i : Int) < (c.length : Int) by omega), if_pos (show (0 : Int) ≤ (i : Int) by omega)]
    rw [drop_cons ByteArray.empty c i (by omega), List.any_cons]
    by_cases hp : ((rdOf ByteArray.empty c (i : Int)).size : Int) > 1200
    · rw [show impl_DiskOk.C.p (c.getD i ByteArray.empty) = true from decide_eq_true hp]
      simp only [if_pos hp]
      exact Tot.ret rfl
    · rw [show impl_DiskOk.C.p (c.getD i ByteArray.empty) = false from decide_eq_false hp]
      simp only [if_neg hp, Bool.false_or, wrap_succ i (by omega)]
      exact ih (i + 1) (by omega)
theorem ok_j0 (b : Bool) (c : List ByteArray) (w : List S70) (r l : Int) (hc : c.length < 1000000000) (hw : w.length < 1000000000) : Tot (· = (!b && (!c.any impl_DiskOk.C.p && !w.any impl_DiskOk.W.p))) (fun k => spec_l7Ok.j0 k b c w r l) := by
  apply Tot.succ
  cases b with
  | true => simp only [spec_l7Ok.j0, if_true]; exact Tot.ret rfl
  | false => simp only [spec_l7Ok.j0, Bool.false_eq_true, if_false, Bool.not_false, Bool.true_and]; exact ok_l0 c w r l hc hw _ 0 rfl
theorem ok_tot (c : List ByteArray) (w : List S70) (r l : Int) (hc : c.length < 1000000000) (hw : w.length < 1000000000) : Tot (· = impl_DiskOk.ok c w r l) (fun k => spec_l7Ok.f k c w r l) := by
  have hj := fun b => ok_j0 b c w r l hc hw
  unfold spec_l7Ok.f impl_DiskOk.ok impl_DiskOk.C.any impl_DiskOk.W.any
  by_cases h1 : (c.length : Int) = 42
  · by_cases h2 : (w.length : Int) > 100
    · simp only [if_pos h1, if_pos h2]
      refine (hj true).mono fun z hz => ?_
      have : ¬ (w.length : Int) ≤ 100 := by omega
      rw [hz]; simp [this, h2]
    · by_cases h3 : r < -1
      · simp only [if_pos h1, if_neg h2, if_pos h3]
        refine (hj true).mono fun z hz => ?_
        have : ¬ r ≥ -1 := by omega
        rw [hz]; simp [this, h3]
      · simp only [if_pos h1, if_neg h2, if_neg h3]
        refine (hj _).mono fun z hz => ?_
        rw [hz]
        by_cases h4 : l < -1
        · have h5 : ¬ l ≥ -1 := by omega
          simp [h4, h5]
        · have h5 : l ≥ -1 := by omega
          have h6 : r ≥ -1 := by omega
          have h7 : (w.length : Int) ≤ 100 := by omega
          have h8 : ¬ l < -1 := by omega
          simp only [decide_eq_true h1, decide_eq_true h5, decide_eq_true h6, decide_eq_true h7, decide_eq_false h8, Bool.not_false, Bool.true_and, Bool.and_true]
  · simp only [if_neg h1]
    refine (hj true).mono fun z hz => ?_
    rw [hz]; simp [h1]
theorem copy_eq (c : List ByteArray) (w : List S70) (r l : Int) (hc : c.length < 1000000000) (hw : w.length < 1000000000) : spec_l7Copy.f c w r l = some (c, w, r, l) := by
  unfold spec_l7Copy.f
  simp only [Option.bind_some, List.length_nil, Nat.zero_add, List.nil_append, if_pos (show c.length < 8796093022208 by omega), if_pos (show w.length < 5864062014805 by omega)]
theorem write_tot (c : List ByteArray) (w : List S70) (r l at_ : Int) (t : ByteArray) (hc : c.length < 1000000000) (hw : w.length ≤ 100) (hr : -1 ≤ r) (hl : -1 ≤ l) (hr' : r < 9223372036854775808) (hl' : l < 9223372036854775808) : Tot (· = writeD c w r l at_ t) (fun k => spec_l7Write.f k c w r l at_ t) := by
  unfold spec_l7Write.f writeD
  rw [copy_eq c w r l hc (by omega)]
  by_cases h0 : l = 0
  · simp only [if_pos h0, Option.bind_some, if_pos (show (l == 0) = true by simpa using h0)]
    exact Tot.ret rfl
  simp only [if_neg h0, wait_eq ⟨at_, t⟩, Option.bind_some, if_neg (show ¬ (l == 0) = true by simpa using h0)]
  have hj : ∀ b : Bool, Tot (· = if b = true then (c, w, r, l, false) else (c, w ++ [⟨at_, t⟩], lessP r, lessP l, true)) (fun k => spec_l7Write.j0 k b c w r l at_ t) := by
    intro b
    apply Tot.succ
    cases b with
    | true => simp only [spec_l7Write.j0, if_true, copy_eq c w r l hc (show w.length < 1000000000 by omega), Option.bind_some]; exact Tot.ret rfl
    | false =>
      simp only [spec_l7Write.j0, Bool.false_eq_true, if_false, copy_eq c w r l hc (show w.length < 1000000000 by omega), Option.bind_some, if_pos (show w.length < 5864062014805 by omega), less_eq l hl hl', less_eq r hr hr']
      exact Tot.ret rfl
  have e : writeOk w r l at_ t = (!impl_DiskOk.W.p ⟨at_, t⟩ && (!(r == 0) && !((w.length : Int) == 100))) := by
    unfold writeOk impl_DiskOk.W.p
    by_cases h1 : 0 ≤ at_ ∧ at_ ≤ 41
    · by_cases h2 : (t.size : Int) ≤ 1200
      · have h3 : ¬ (t.size : Int) > 1200 := by omega
        rw [decide_eq_true h1, decide_eq_true h1.1, decide_eq_true h1.2, decide_eq_true h2, decide_eq_false h3]; rfl
      · have h3 : (t.size : Int) > 1200 := by omega
        rw [decide_eq_true h1, decide_eq_true h1.1, decide_eq_true h1.2, decide_eq_false h2, decide_eq_true h3]; rfl
    · rw [decide_eq_false h1]
      by_cases h2 : 0 ≤ at_
      · have h3 : ¬ at_ ≤ 41 := fun h => h1 ⟨h2, h⟩
        rw [decide_eq_true h2, decide_eq_false h3]; rfl
      · rw [decide_eq_false h2]; rfl
  rw [e]
  cases hp : impl_DiskOk.W.p ⟨at_, t⟩ with
  | true => exact hj true
  | false =>
    simp only [Bool.not_false, if_true, Bool.true_and]
    by_cases h1 : r = 0
    · simp only [if_pos h1, show (r == 0) = true by simpa using h1]
      exact hj true
    · simp only [if_neg h1, show (r == 0) = false by simpa using h1]
      by_cases h2 : (w.length : Int) ≥ 100
      · have h3 : ((w.length : Int) == 100) = true := by simp; omega
        rw [h3, decide_eq_true h2]; exact hj true
      · have h3 : ((w.length : Int) == 100) = false := by simp; omega
        rw [h3, decide_eq_false h2]; exact hj false

theorem any_append_false {w : List S70} {x : S70} (h : w.any impl_DiskOk.W.p = false) (hx : impl_DiskOk.W.p x = false) : (w ++ [x]).any impl_DiskOk.W.p = false := by simp only [List.any_append, h, List.any_cons, hx, List.any_nil, Bool.or_self]
theorem wait_at {w : List S70} (h : w.any impl_DiskOk.W.p = false) (i : Nat) (hi : i < w.length) : 0 ≤ (rd_T70 w i).f0 ∧ (rd_T70 w i).f0 ≤ 41 ∧ (rd_T70 w i).f1.size ≤ 1200 := by
  have hm := (List.any_eq_false.mp h) (rd_T70 w i) (by simp [rd_T70, List.getD_eq_getElem?_getD, List.getElem?_eq_getElem hi])
  simp [impl_DiskOk.W.p] at hm
  omega
theorem writeOk_p {w : List S70} {r l at_ : Int} {t : ByteArray} (h : writeOk w r l at_ t = true) : impl_DiskOk.W.p ⟨at_, t⟩ = false := by
  unfold writeOk at h
  unfold impl_DiskOk.W.p
  simp only [Bool.and_eq_true, decide_eq_true_eq] at h
  have h3 : ¬ (t.size : Int) > 1200 := by omega
  simp only [decide_eq_true h.1.1, decide_eq_true h.1.2, decide_eq_false h3]; rfl
theorem applyW_all {c : List ByteArray} {w : List S70} (h : ∀ x ∈ c, x.size ≤ 1200) (hw : w.any impl_DiskOk.W.p = false) : ∀ x ∈ applyW c w, x.size ≤ 1200 := by
  unfold applyW
  induction w generalizing c with
  | nil => exact h
  | cons a w ih =>
    simp only [List.any_cons, Bool.or_eq_false_iff] at hw
    refine ih ?_ hw.2
    intro x hx
    rcases List.mem_or_eq_of_mem_set hx with h1 | h1
    · exact h x h1
    · subst h1
      have := hw.1
      simp [impl_DiskOk.W.p] at this
      omega
/-- A disk that is being drawn: at most n waits. -/
def Drawn (n : Int) (c : List ByteArray) (w : List S70) (r l : Int) : Prop := c.length = 42 ∧ (∀ x ∈ c, x.size ≤ 1200) ∧ (w.length : Int) ≤ n ∧ w.any impl_DiskOk.W.p = false ∧ r = -1 ∧ l = -1
theorem lessP_neg : lessP (-1) = -1 := by decide +kernel
theorem drawn_write {n : Int} {c : List ByteArray} {w : List S70} {r l : Int} (h : Drawn n c w r l) (at_ : Int) (t : ByteArray) : Drawn (n + 1) (writeD c w r l at_ t).1 (writeD c w r l at_ t).2.1 (writeD c w r l at_ t).2.2.1 (writeD c w r l at_ t).2.2.2.1 := by
  obtain ⟨h1, h2, h3, h4, rfl, rfl⟩ := h
  unfold writeD
  rw [if_neg (show ¬ ((-1 : Int) == 0) = true by decide)]
  by_cases hk : writeOk w (-1) (-1) at_ t = true
  · rw [if_pos hk]
    exact ⟨h1, h2, by simp only [List.length_append, List.length_singleton]; omega, any_append_false h4 (writeOk_p hk), lessP_neg, lessP_neg⟩
  · rw [if_neg hk]
    exact ⟨h1, h2, by simp only; omega, h4, rfl, rfl⟩
theorem drawn_sync {n : Int} {c : List ByteArray} {w : List S70} {r l : Int} (h : Drawn n c w r l) (hn : 0 ≤ n) : Drawn n (syncD c w r l).1 (syncD c w r l).2.1 (syncD c w r l).2.2.1 (syncD c w r l).2.2.2 := by
  obtain ⟨h1, h2, h3, h4, rfl, rfl⟩ := h
  unfold syncD
  rw [if_neg (show ¬ ((-1 : Int) == 0) = true by decide)]
  exact ⟨by simp only [applyW_length]; exact h1, applyW_all h2 h4, by simp; omega, rfl, rfl, lessP_neg⟩
/-- What l15Disk draws. -/
def Disk0 (P : Int) (r : List ByteArray × List S70 × Int × Int × Int) : Prop :=
  r.1.length = 42 ∧ (∀ x ∈ r.1, x.size ≤ 1200) ∧ (r.2.1.length : Int) ≤ 20 ∧ r.2.1.any impl_DiskOk.W.p = false ∧ (-1 ≤ r.2.2.1 ∧ r.2.2.1 ≤ 3) ∧ (-1 ≤ r.2.2.2.1 ∧ r.2.2.2.1 ≤ 3) ∧ (0 ≤ r.2.2.2.2 ∧ r.2.2.2.2 ≤ P)
/-- What l15AnyDisk draws. -/
def AnyDisk (P : Int) (r : List ByteArray × List S70 × Int × Int × Int) : Prop :=
  r.1.length ≤ 42 ∧ r.2.1.length ≤ 101 ∧ (-2 ≤ r.2.2.1 ∧ r.2.2.1 ≤ 3) ∧ (-2 ≤ r.2.2.2.1 ∧ r.2.2.2.1 ≤ 3) ∧ (0 ≤ r.2.2.2.2 ∧ r.2.2.2.2 ≤ P)
theorem ok_facts {c : List ByteArray} {w : List S70} {r l : Int} (h : impl_DiskOk.ok c w r l = true) : c.length = 42 ∧ w.length ≤ 100 ∧ -1 ≤ r ∧ -1 ≤ l ∧ w.any impl_DiskOk.W.p = false ∧ c.any impl_DiskOk.C.p = false := by
  unfold impl_DiskOk.ok impl_DiskOk.C.any impl_DiskOk.W.any at h
  simp only [Bool.and_eq_true, decide_eq_true_eq, Bool.not_eq_true'] at h
  obtain ⟨h1, h2, h3, h4, h5, h6⟩ := h
  exact ⟨by omega, by omega, h5, h6, h4, h2⟩
theorem ok_of {c : List ByteArray} {w : List S70} {r l : Int} (h1 : c.length = 42) (h2 : w.length ≤ 100) (h3 : -1 ≤ r) (h4 : -1 ≤ l) (h5 : w.any impl_DiskOk.W.p = false) (h6 : c.any impl_DiskOk.C.p = false) : impl_DiskOk.ok c w r l = true := by
  unfold impl_DiskOk.ok impl_DiskOk.C.any impl_DiskOk.W.any
  simp only [Bool.and_eq_true, decide_eq_true_eq, Bool.not_eq_true']
  exact ⟨by omega, h6, by omega, h5, by omega, by omega⟩
theorem implSync_eq (c : List ByteArray) (w : List S70) (r l : Int) : impl_DiskSync.f c w r l = some (if impl_DiskOk.ok c w r l = true then syncD c w r l else ([], [], 0, 0)) := by
  unfold impl_DiskSync.f
  by_cases hk : impl_DiskOk.ok c w r l = true
  · rw [if_pos hk, if_pos hk]
  · rw [if_neg hk, if_neg hk]
theorem specWrite_tot (c : List ByteArray) (w : List S70) (r l at_ : Int) (t : ByteArray) (hc : c.length < 100000000) (hw : w.length < 100000000) (hr : r < 9223372036854775808) (hl : l < 9223372036854775808) : Tot (· = if impl_DiskOk.ok c w r l = true then writeD c w r l at_ t else ([], [], 0, 0, false)) (fun k => spec_DiskWrite.f k c w r l at_ t) := by
  unfold spec_DiskWrite.f
  refine Tot.bind (ok_tot c w r l (by omega) (by omega)) ?_
  rintro z rfl
  cases hk : impl_DiskOk.ok c w r l with
  | false => simp only [Bool.false_eq_true, if_false]; exact Tot.ret rfl
  | true =>
    obtain ⟨h1, h2, h3, h4, h5, h6⟩ := ok_facts hk
    simp only [if_true]
    refine Tot.bind (write_tot c w r l at_ t (by omega) h2 h3 h4 hr hl) ?_
    rintro d rfl
    exact Tot.ret rfl
theorem implWrite_eq (c : List ByteArray) (w : List S70) (r l at_ : Int) (t : ByteArray) : impl_DiskWrite.f c w r l at_ t = some (if impl_DiskOk.ok c w r l = true then writeD c w r l at_ t else ([], [], 0, 0, false)) := by
  unfold impl_DiskWrite.f
  by_cases hk : impl_DiskOk.ok c w r l = true
  · rw [if_pos hk, if_pos hk]
  · rw [if_neg hk, if_neg hk]
theorem syncD_len (c : List ByteArray) (w : List S70) (r l : Int) (n : Nat) (hc : c.length ≤ n) (hw : w.length ≤ n) : (if impl_DiskOk.ok c w r l = true then syncD c w r l else ([], [], 0, 0)).1.length ≤ n ∧ (if impl_DiskOk.ok c w r l = true then syncD c w r l else ([], [], 0, 0)).2.1.length ≤ n := by
  split
  · unfold syncD
    split
    · exact ⟨hc, hw⟩
    · exact ⟨by simp only [applyW_length]; exact hc, Nat.zero_le _⟩
  · exact ⟨Nat.zero_le _, Nat.zero_le _⟩
theorem writeD_len (c : List ByteArray) (w : List S70) (r l at_ : Int) (t : ByteArray) (n : Nat) (hc : c.length ≤ n) (hw : w.length < n) : (if impl_DiskOk.ok c w r l = true then writeD c w r l at_ t else ([], [], 0, 0, false)).1.length ≤ n ∧ (if impl_DiskOk.ok c w r l = true then writeD c w r l at_ t else ([], [], 0, 0, false)).2.1.length ≤ n := by
  split
  · unfold writeD
    split
    · exact ⟨hc, Nat.le_of_lt hw⟩
    · split
      · exact ⟨hc, by simp only [List.length_append, List.length_singleton]; omega⟩
      · exact ⟨hc, Nat.le_of_lt hw⟩
  · exact ⟨Nat.zero_le _, Nat.zero_le _⟩
/-! Exact laws: sizes, copies, marks -/
theorem Tot.one {α : Type} {P : α → Prop} {f : Nat → Option α} (h : Tot P f) : ∃ r, P r ∧ Tot (· = r) f := by
  obtain ⟨K, r, hr, h1⟩ := h
  exact ⟨r, hr, K, r, rfl, h1⟩
theorem strOfNums_one (n : Int) : (strOfNums [n]).size = 1 := rfl
theorem markText_l0 (m : Nat) : ∀ (n : Nat) (s : ByteArray), n ≤ m → s.size + n ≤ 1000000000000 → Tot (fun _ => True) (fun k => laws_markText.l0 k n s) := by
  induction m with
  | zero =>
    intro n s hn hs
    obtain rfl : n = 0 := by omega
    apply Tot.succ
    simp only [laws_markText.l0, if_neg (show ¬ ((0 : Nat) : Int) > 0 by omega), if_pos (show 1 + s.size ≤ 9223372036854775807 by omega)]
    exact Tot.ret trivial
  | succ m ih =>
    intro n s hn hs
    apply Tot.succ
    by_cases h0 : n = 0
    · subst h0
      simp only [laws_markText.l0, if_neg (show ¬ ((0 : Nat) : Int) > 0 by omega), if_pos (show 1 + s.size ≤ 9223372036854775807 by omega)]
      exact Tot.ret trivial
    · have e : wrap64 (Int.tdiv (n : Int) 10) = ((n / 10 : Nat) : Int) := by
        rw [Int.tdiv_eq_ediv_of_nonneg (by omega), w64 _ (by omega) (by omega)]; omega
      simp only [laws_markText.l0, if_pos (show (n : Int) > 0 by omega), Option.bind_some, e]
      generalize wrap64 (48 + Int.tmod (n : Int) 10) % 256 = d
      have h1 := strOfNums_one d
      simp only [if_pos (show (strOfNums [d]).size + s.size ≤ 9223372036854775807 by omega)]
      exact ih (n / 10) (strOfNums [d] ++ s) (by omega) (by rw [ByteArray.size_append, h1]; omega)
theorem markText_tot (n : Int) (h : 0 ≤ n) (h' : n < 1000000000) : Tot (fun _ => True) (fun k => laws_markText.f k n) := by
  unfold laws_markText.f
  by_cases h0 : n ≤ 0
  · simp only [if_pos h0]; exact Tot.ret trivial
  · simp only [if_neg h0]
    obtain ⟨m, rfl⟩ := Int.eq_ofNat_of_zero_le h
    exact markText_l0 m m _ (Nat.le_refl _) (by simp only [ByteArray.size, Array.size_empty]; omega)
/-- The texts' marks from m on. -/
def MarkedS (m : Int) (n : Nat) (xs : List ByteArray) : Prop := ∀ i, i < n → Tot (· = xs.getD i ByteArray.empty) (fun k => laws_markText.f k (m + i))
theorem wrap_add (m : Int) (h : 0 ≤ m) (h' : m < 1000000000) : wrap64 (m + 1) = m + 1 := w64 _ (by omega) (by omega)
theorem markS_l0 (m : Int) (hm : 0 ≤ m) (n : Nat) : ∀ (xs : List ByteArray) (i : Nat), xs.length - i = n → i ≤ xs.length → m + xs.length < 100000000 → MarkedS m i xs → Tot (fun r => r.1 = m + xs.length ∧ r.2.length = xs.length ∧ MarkedS m xs.length r.2) (fun k => laws_markStringS.l0 k xs (m + i) i) := by
  induction n with
  | zero =>
    intro xs i hn hi hx hM
    apply Tot.succ
    obtain rfl : i = xs.length := by omega
    simp only [laws_markStringS.l0, if_neg (show ¬ ((xs.length : Nat) : Int) < ((xs.length : Nat) : Int) by omega)]
    exact Tot.ret ⟨rfl, rfl, hM⟩
  | succ n ih =>
    intro xs i hn hi hx hM
    apply Tot.succ
    simp only [laws_markStringS.l0, if_pos (show (i : Int) < (xs.length : Int) by omega), if_pos (show (0 : Int) ≤ (i : Int) by omega)]
    obtain ⟨t0, _, ht0⟩ := (markText_tot (m + i) (by omega) (by omega)).one
    refine Tot.bind ht0 ?_
    rintro t ht
    have ht : Tot (· = t) (fun k => laws_markText.f k (m + i)) := by rw [ht]; exact ht0
    have e : wrap64 (m + i + 1) = m + (i + 1 : Nat) := by rw [wrap_add _ (by omega) (by omega)]; omega
    rw [e, wrap_succ i (by omega)]
    have := ih (xs.set i t) (i + 1) (by rw [List.length_set]; omega) (by rw [List.length_set]; omega) (by rw [List.length_set]; omega) (by
      intro j hj
      by_cases hji : j = i
      · subst hji
        rw [List.getD_eq_getElem?_getD, List.getElem?_set_self (by omega)]
        exact ht
      · rw [List.getD_eq_getElem?_getD, List.getElem?_set_ne (by omega), ← List.getD_eq_getElem?_getD]
        exact hM j (by omega))
    simpa using this
theorem heldS_l0 (m : Int) (hm : 0 ≤ m) (xs : List ByteArray) (hx : m + xs.length < 100000000) (hM : MarkedS m xs.length xs) (n : Nat) : ∀ i : Nat, xs.length - i = n → i ≤ xs.length → Tot (· = m + xs.length) (fun k => laws_heldStringS.l0 k xs (m + i) i) := by
  induction n with
  | zero =>
    intro i hn hi
    apply Tot.succ
    obtain rfl : i = xs.length := by omega
    simp only [laws_heldStringS.l0, if_neg (show ¬ ((xs.length : Nat) : Int) < ((xs.length : Nat) : Int) by omega)]
    exact Tot.ret rfl
  | succ n ih =>
    intro i hn hi
    apply Tot.succ
    simp only [laws_heldStringS.l0, if_pos (show (i : Int) < (xs.length : Int) by omega), if_pos (show (0 : Int) ≤ (i : Int) by omega)]
    refine Tot.bind (hM i (by omega)) ?_
    rintro t ht
    have e : wrap64 (m + i + 1) = m + (i + 1 : Nat) := by rw [wrap_add _ (by omega) (by omega)]; omega
    simp only [if_pos (show (rdOf ByteArray.empty xs (i : Int)).toList = t.toList by rw [ht]; rfl), e, wrap_succ i (by omega)]
    exact ih (i + 1) (by omega) (by omega)
theorem markS_tot (m : Int) (hm : 0 ≤ m) (xs : List ByteArray) (hx : m + xs.length < 100000000) : Tot (fun r => r.1 = m + xs.length ∧ r.2.length = xs.length ∧ MarkedS m xs.length r.2) (fun k => laws_markStringS.f k xs m) := by
  unfold laws_markStringS.f
  have := markS_l0 m hm _ xs 0 rfl (by omega) hx (fun i hi => by omega)
  simpa using this
theorem heldS_tot (m : Int) (hm : 0 ≤ m) (xs : List ByteArray) (hx : m + xs.length < 100000000) (hM : MarkedS m xs.length xs) : Tot (· = m + xs.length) (fun k => laws_heldStringS.f k xs m) := by
  unfold laws_heldStringS.f
  have := heldS_l0 m hm xs hx hM _ 0 rfl (by omega)
  simpa using this
theorem eqS_l0 (a : List ByteArray) (ha : a.length < 1000000000) (n : Nat) : ∀ i : Nat, a.length - i = n → Tot (· = true) (fun k => laws_eqStringS.l0 k a a i) := by
  induction n with
  | zero =>
    intro i hn
    apply Tot.succ
    simp only [laws_eqStringS.l0, if_neg (show ¬ (i : Int) < (a.length : Int) by omega)]
    exact Tot.ret rfl
  | succ n ih =>
    intro i hn
    apply Tot.succ
    simp only [laws_eqStringS.l0, if_pos (show (i : Int) < (a.length : Int) by omega), if_pos (show (0 : Int) ≤ (i : Int) by omega), if_true, wrap_succ i (by omega)]
    exact ih (i + 1) (by omega)
theorem eqS_same (a : List ByteArray) (ha : a.length < 1000000000) : Tot (· = true) (fun k => laws_eqStringS.f k a a) := by
  unfold laws_eqStringS.f
  simp only [if_true]
  exact eqS_l0 a ha _ 0 rfl
theorem szS_l0 (xs : List ByteArray) (hs : ∀ x ∈ xs, x.size ≤ maxLen) (hl : xs.length < 1000000000) (n : Nat) : ∀ (i : Nat) (left : Int), xs.length - i = n → 0 ≤ left → left ≤ 1048576 → Tot (fun t => t ≤ left) (fun k => laws_szStringS.l0 k xs left i) := by
  induction n with
  | zero =>
    intro i left hn h0 h1
    apply Tot.succ
    simp only [laws_szStringS.l0, if_neg (show ¬ (i : Int) < (xs.length : Int) by omega)]
    exact Tot.ret (Int.le_refl _)
  | succ n ih =>
    intro i left hn h0 h1
    apply Tot.succ
    have hz : (rdOf ByteArray.empty xs (i : Int)).size ≤ maxLen := by
      show (xs.getD i ByteArray.empty).size ≤ maxLen
      rw [List.getD_eq_getElem?_getD, List.getElem?_eq_getElem (show i < xs.length by omega)]
      exact hs _ (List.getElem_mem _)
    have hq : maxLen ≤ 9223372036854775807 := by decide
    simp only [laws_szStringS.l0, if_pos (show (i : Int) < (xs.length : Int) by omega), if_pos (show (0 : Int) ≤ (i : Int) by omega)]
    generalize (rdOf ByteArray.empty xs (i : Int)).size = z at hz ⊢
    rw [w64 _ (by omega) (by omega)]
    by_cases h2 : left - (z : Int) < 0
    · simp only [if_pos h2]; exact Tot.ret (by omega)
    · simp only [if_neg h2, wrap_succ i (by omega)]
      exact (ih (i + 1) _ (by omega) (by omega) (by omega)).mono (fun t ht => by omega)
theorem szS_tot (xs : List ByteArray) (hs : ∀ x ∈ xs, x.size ≤ maxLen) (hl : xs.length ≤ maxLen) (left : Int) (h0 : 0 ≤ left) (h1 : left ≤ 1048576) : Tot (fun t => t ≤ left ∧ (0 ≤ t → xs.length ≤ 1048576)) (fun k => laws_szStringS.f k xs left) := by
  unfold laws_szStringS.f
  have hq : maxLen ≤ 9223372036854775807 := by decide
  rw [w64 _ (by omega) (by omega)]
  by_cases h2 : left - (xs.length : Int) < 0
  · simp only [if_pos h2]; exact Tot.ret ⟨by omega, by omega⟩
  · simp only [if_neg h2]
    exact (szS_l0 xs hs (by omega) _ 0 _ rfl (by omega) (by omega)).mono (fun t ht => ⟨by omega, by omega⟩)
theorem toS_l0 (xs : List ByteArray) (hl : xs.length < 1000000000) (n : Nat) : ∀ (i : Nat) (ys : List ByteArray), xs.length - i = n → i ≤ xs.length → ys.length = xs.length → ys.take i = xs.take i → Tot (· = xs) (fun k => laws_toStringS.l0 k xs ys i) := by
  induction n with
  | zero =>
    intro i ys hn hi hy he
    apply Tot.succ
    obtain rfl : i = xs.length := by omega
    simp only [laws_toStringS.l0, if_neg (show ¬ ((xs.length : Nat) : Int) < ((xs.length : Nat) : Int) by omega)]
    rw [List.take_of_length_le (by omega), List.take_of_length_le (by omega)] at he
    exact Tot.ret he
  | succ n ih =>
    intro i ys hn hi hy he
    apply Tot.succ
    simp only [laws_toStringS.l0, if_pos (show (i : Int) < (xs.length : Int) by omega), if_pos (show (0 : Int) ≤ (i : Int) by omega), if_pos (show (i : Int) < (ys.length : Int) by omega), wrap_succ i (by omega)]
    refine ih (i + 1) _ (by omega) (by omega) (by rw [List.length_set]; exact hy) ?_
    have e1 : (ys.set (i : Int).toNat (rdOf ByteArray.empty xs (i : Int))).take (i + 1) = ys.take i ++ [rdOf ByteArray.empty xs (i : Int)] := by
      rw [show (i : Int).toNat = i from rfl, List.take_add_one, List.take_set_of_le (Nat.le_refl _), List.getElem?_set_self (by omega)]; rfl
    have e2 : xs.take (i + 1) = xs.take i ++ [rdOf ByteArray.empty xs (i : Int)] := by
      rw [List.take_add_one, List.getElem?_eq_getElem (show i < xs.length by omega)]
      show _ = _ ++ [xs.getD i ByteArray.empty]
      rw [List.getD_eq_getElem?_getD, List.getElem?_eq_getElem (show i < xs.length by omega)]; rfl
    rw [e1, e2, he]
theorem toS_tot (xs : List ByteArray) (hl : xs.length < 1000000000) : Tot (· = xs) (fun k => laws_toStringS.f k xs) := by
  unfold laws_toStringS.f
  have e : ((xs.length : Nat) : Int).toNat = xs.length := rfl
  simp only [if_pos (show (0 : Int) ≤ (xs.length : Int) by omega), e, if_pos (show xs.length ≤ 17592186044416 by omega)]
  exact toS_l0 xs hl _ 0 _ rfl (by omega) (by simp) (by simp)
/-! Exact laws of the disk -/
def cv (x : S92) : S70 := ⟨x.f0, x.f1⟩
theorem szW_l0 (xs : List S92) (hs : ∀ x ∈ xs, (Lit.int .i64 x.f0).wf = true ∧ x.f1.size ≤ maxLen) (hl : xs.length < 1000000000) (n : Nat) : ∀ (i : Nat) (left : Int), xs.length - i = n → 0 ≤ left → left ≤ 1048576 → Tot (fun t => t ≤ left) (fun k => laws_szWaitS.l0 k xs left i) := by
  induction n with
  | zero =>
    intro i left hn h0 h1
    apply Tot.succ
    simp only [laws_szWaitS.l0, if_neg (show ¬ (i : Int) < (xs.length : Int) by omega)]
    exact Tot.ret (Int.le_refl _)
  | succ n ih =>
    intro i left hn h0 h1
    apply Tot.succ
    have hz : (rd_T92 xs (i : Int)).f1.size ≤ maxLen := by
      show (xs.getD i z92).f1.size ≤ maxLen
      rw [List.getD_eq_getElem?_getD, List.getElem?_eq_getElem (show i < xs.length by omega)]
      exact (hs _ (List.getElem_mem _)).2
    have hq : maxLen ≤ 9223372036854775807 := by decide
    simp only [laws_szWaitS.l0, if_pos (show (i : Int) < (xs.length : Int) by omega), if_pos (show (0 : Int) ≤ (i : Int) by omega), laws_szWait.f]
    generalize (rd_T92 xs (i : Int)).f1.size = z at hz ⊢
    rw [w64 _ (by omega) (by omega)]
    by_cases h2 : left - (z : Int) < 0
    · simp only [if_pos h2, Option.bind_some, if_pos (show (-1 : Int) < 0 by omega)]; exact Tot.ret (by omega)
    · simp only [if_neg h2, Option.bind_some, wrap_succ i (by omega)]
      exact (ih (i + 1) _ (by omega) (by omega) (by omega)).mono (fun t ht => by omega)
theorem szW_tot (xs : List S92) (hs : ∀ x ∈ xs, (Lit.int .i64 x.f0).wf = true ∧ x.f1.size ≤ maxLen) (hl : xs.length ≤ maxLen) (left : Int) (h0 : 0 ≤ left) (h1 : left ≤ 1048576) : Tot (fun t => t ≤ left ∧ (0 ≤ t → xs.length ≤ 1048576)) (fun k => laws_szWaitS.f k xs left) := by
  unfold laws_szWaitS.f
  have hq : maxLen ≤ 9223372036854775807 := by decide
  rw [w64 _ (by omega) (by omega)]
  by_cases h2 : left - (xs.length : Int) < 0
  · simp only [if_pos h2]; exact Tot.ret ⟨by omega, by omega⟩
  · simp only [if_neg h2]
    exact (szW_l0 xs hs (by omega) _ 0 _ rfl (by omega) (by omega)).mono (fun t ht => ⟨by omega, by omega⟩)
theorem szDisk_tot (c : List ByteArray) (w : List S92) (r l : Int) (hc : c.length ≤ maxLen ∧ ∀ x ∈ c, x.size ≤ maxLen) (hw : w.length ≤ maxLen ∧ ∀ x ∈ w, (Lit.int .i64 x.f0).wf = true ∧ x.f1.size ≤ maxLen) : Tot (fun t => 0 ≤ t → c.length ≤ 1048576 ∧ w.length ≤ 1048576) (fun k => laws_szDisk.f k c w r l 1048576) := by
  unfold laws_szDisk.f
  refine Tot.bind (szS_tot c hc.2 hc.1 1048576 (by omega) (by omega)) ?_
  rintro t ⟨h1, h2⟩
  by_cases h3 : t < 0
  · simp only [if_pos h3]; exact Tot.ret (by omega)
  · simp only [if_neg h3]
    refine Tot.bind (szW_tot w hw.2 hw.1 t (by omega) (by omega)) ?_
    rintro t' ⟨h4, h5⟩
    by_cases h6 : t' < 0
    · simp only [if_pos h6]; exact Tot.ret (by omega)
    · simp only [if_neg h6]; exact Tot.ret (fun h => ⟨h2 (by omega), h5 h⟩)
theorem toW_l0 (xs : List S92) (hl : xs.length < 1000000000) (n : Nat) : ∀ (i : Nat) (ys : List S70), xs.length - i = n → i ≤ xs.length → ys.length = xs.length → ys.take i = (xs.map cv).take i → Tot (· = xs.map cv) (fun k => laws_toWaitS.l0 k xs ys i) := by
  induction n with
  | zero =>
    intro i ys hn hi hy he
    apply Tot.succ
    obtain rfl : i = xs.length := by omega
    simp only [laws_toWaitS.l0, if_neg (show ¬ ((xs.length : Nat) : Int) < ((xs.length : Nat) : Int) by omega)]
    rw [List.take_of_length_le (by omega), List.take_of_length_le (by rw [List.length_map]; omega)] at he
    exact Tot.ret he
  | succ n ih =>
    intro i ys hn hi hy he
    apply Tot.succ
    simp only [laws_toWaitS.l0, laws_toWait.f, Option.bind_some, if_pos (show (i : Int) < (xs.length : Int) by omega), if_pos (show (0 : Int) ≤ (i : Int) by omega), if_pos (show (i : Int) < (ys.length : Int) by omega), wrap_succ i (by omega)]
    refine ih (i + 1) _ (by omega) (by omega) (by rw [List.length_set]; exact hy) ?_
    have e1 : (ys.set (i : Int).toNat (⟨(rd_T92 xs (i : Int)).f0, (rd_T92 xs (i : Int)).f1⟩ : S70)).take (i + 1) = ys.take i ++ [cv (rd_T92 xs (i : Int))] := by
      rw [show (i : Int).toNat = i from rfl, List.take_add_one, List.take_set_of_le (Nat.le_refl _), List.getElem?_set_self (by omega)]; rfl
    have e2 : (xs.map cv).take (i + 1) = (xs.map cv).take i ++ [cv (rd_T92 xs (i : Int))] := by
      rw [List.take_add_one, List.getElem?_map, List.getElem?_eq_getElem (show i < xs.length by omega)]
      show _ = _ ++ [cv (xs.getD i z92)]
      rw [List.getD_eq_getElem?_getD, List.getElem?_eq_getElem (show i < xs.length by omega)]; rfl
    rw [e1, e2, he]
theorem toW_tot (xs : List S92) (hl : xs.length < 1000000000) : Tot (· = xs.map cv) (fun k => laws_toWaitS.f k xs) := by
  unfold laws_toWaitS.f
  have e : ((xs.length : Nat) : Int).toNat = xs.length := rfl
  simp only [if_pos (show (0 : Int) ≤ (xs.length : Int) by omega), e, if_pos (show xs.length ≤ 11728124029610 by omega)]
  exact toW_l0 xs hl _ 0 _ rfl (by omega) (by simp) (by simp)
theorem toDisk_tot (c : List ByteArray) (w : List S92) (r l : Int) (hc : c.length ≤ 1048576) (hw : w.length ≤ 1048576) : Tot (· = (c, w.map cv, r, l)) (fun k => laws_toDisk.f k c w r l) := by
  unfold laws_toDisk.f
  refine Tot.bind (toS_tot c (by omega)) ?_
  rintro _ rfl
  refine Tot.bind (toW_tot w (by omega)) ?_
  rintro _ rfl
  exact Tot.ret rfl
theorem eqW_l0 (a : List S70) (ha : a.length < 1000000000) (n : Nat) : ∀ i : Nat, a.length - i = n → Tot (· = true) (fun k => laws_eqWaitS.l0 k a a i) := by
  induction n with
  | zero =>
    intro i hn
    apply Tot.succ
    simp only [laws_eqWaitS.l0, if_neg (show ¬ (i : Int) < (a.length : Int) by omega)]
    exact Tot.ret rfl
  | succ n ih =>
    intro i hn
    apply Tot.succ
    simp only [laws_eqWaitS.l0, laws_eqWait.f, Option.bind_some, if_pos (show (i : Int) < (a.length : Int) by omega), if_pos (show (0 : Int) ≤ (i : Int) by omega), if_true, wrap_succ i (by omega)]
    exact ih (i + 1) (by omega)
theorem eqDisk_same (c : List ByteArray) (w : List S70) (r l : Int) (hc : c.length ≤ 10000000) (hw : w.length ≤ 10000000) : Tot (· = true) (fun k => laws_eqDisk.f k c w r l c w r l) := by
  unfold laws_eqDisk.f laws_eqWaitS.f
  refine Tot.bind (eqS_same c (by omega)) ?_
  rintro _ rfl
  simp only [if_true]
  refine Tot.bind (eqW_l0 w (by omega) _ 0 rfl) ?_
  rintro _ rfl
  simp only [if_true]
  exact Tot.ret rfl
/-- The waits' marks from m on. -/
def MarkedW (m : Int) (n : Nat) (xs : List S70) : Prop := ∀ i, i < n → (xs.getD i z70).f0 = m + 2 * i ∧ Tot (· = (xs.getD i z70).f1) (fun k => laws_markText.f k (m + 2 * i + 1))
theorem markW_l0 (m : Int) (hm : 0 ≤ m) (n : Nat) : ∀ (xs : List S70) (i : Nat), xs.length - i = n → i ≤ xs.length → m + 2 * xs.length < 100000000 → MarkedW m i xs → Tot (fun r => r.1 = m + 2 * xs.length ∧ r.2.length = xs.length ∧ MarkedW m xs.length r.2) (fun k => laws_markWaitS.l0 k xs (m + 2 * i) i) := by
  induction n with
  | zero =>
    intro xs i hn hi hx hM
    apply Tot.succ
    obtain rfl : i = xs.length := by omega
    simp only [laws_markWaitS.l0, if_neg (show ¬ ((xs.length : Nat) : Int) < ((xs.length : Nat) : Int) by omega)]
    exact Tot.ret ⟨rfl, rfl, hM⟩
  | succ n ih =>
    intro xs i hn hi hx hM
    apply Tot.succ
    have e : wrap64 (m + 2 * i + 1) = m + 2 * i + 1 := w64 _ (by omega) (by omega)
    have e2 : wrap64 (m + 2 * i + 1 + 1) = m + 2 * (i + 1 : Nat) := by rw [w64 _ (by omega) (by omega)]; omega
    simp only [laws_markWaitS.l0, Option.bind_some, if_pos (show (i : Int) < (xs.length : Int) by omega), if_pos (show (0 : Int) ≤ (i : Int) by omega), e, e2, wrap_succ i (by omega)]
    obtain ⟨t0, _, ht0⟩ := (markText_tot (m + 2 * i + 1) (by omega) (by omega)).one
    refine Tot.bind ht0 ?_
    rintro t ht
    have ht : Tot (· = t) (fun k => laws_markText.f k (m + 2 * i + 1)) := by rw [ht]; exact ht0
    generalize hys : (xs.set (i : Int).toNat (⟨m + 2 * i, (rd_T70 xs (i : Int)).f1⟩ : S70)) = ys
    have hyl : ys.length = xs.length := by rw [← hys, List.length_set]
    have hyf : (rd_T70 ys (i : Int)).f0 = m + 2 * i := by
      show (ys.getD i z70).f0 = _
      rw [← hys, show (i : Int).toNat = i from rfl, List.getD_eq_getElem?_getD, List.getElem?_set_self (by omega)]; rfl
    rw [hyf]
    have := ih (ys.set (i : Int).toNat (⟨m + 2 * i, t⟩ : S70)) (i + 1) (by rw [List.length_set]; omega) (by rw [List.length_set]; omega) (by rw [List.length_set]; omega) (by
      intro j hj
      by_cases hji : j = i
      · subst hji
        rw [List.getD_eq_getElem?_getD, show (j : Int).toNat = j from rfl, List.getElem?_set_self (by omega)]
        exact ⟨rfl, ht⟩
      · rw [List.getD_eq_getElem?_getD, show (i : Int).toNat = i from rfl, List.getElem?_set_ne (by omega), ← hys, show (i : Int).toNat = i from rfl, List.getElem?_set_ne (by omega), ← List.getD_eq_getElem?_getD]
        exact hM j (by omega))
    simpa only [List.length_set, hyl] using this
theorem heldW_l0 (m : Int) (hm : 0 ≤ m) (xs : List S70) (hx : m + 2 * xs.length < 100000000) (hM : MarkedW m xs.length xs) (n : Nat) : ∀ i : Nat, xs.length - i = n → i ≤ xs.length → Tot (· = m + 2 * xs.length) (fun k => laws_heldWaitS.l0 k xs (m + 2 * i) i) := by
  induction n with
  | zero =>
    intro i hn hi
    apply Tot.succ
    obtain rfl : i = xs.length := by omega
    simp only [laws_heldWaitS.l0, if_neg (show ¬ ((xs.length : Nat) : Int) < ((xs.length : Nat) : Int) by omega)]
    exact Tot.ret rfl
  | succ n ih =>
    intro i hn hi
    apply Tot.succ
    obtain ⟨h1, h2⟩ := hM i (by omega)
    have e : wrap64 (m + 2 * i + 1) = m + 2 * i + 1 := w64 _ (by omega) (by omega)
    have e2 : wrap64 (m + 2 * i + 1 + 1) = m + 2 * (i + 1 : Nat) := by rw [w64 _ (by omega) (by omega)]; omega
    simp only [laws_heldWaitS.l0, if_pos (show (i : Int) < (xs.length : Int) by omega), if_pos (show (0 : Int) ≤ (i : Int) by omega), if_pos (show (rd_T70 xs (i : Int)).f0 = m + 2 * i from h1), e, e2, wrap_succ i (by omega)]
    refine Tot.bind h2 ?_
    rintro t ht
    simp only [if_pos (show (rd_T70 xs (i : Int)).f1.toList = t.toList by rw [ht]; rfl)]
    exact ih (i + 1) (by omega) (by omega)
/-- A disk that is marked from 1 on. -/
def MarkedD (c : List ByteArray) (w : List S70) : Prop := MarkedS 1 c.length c ∧ MarkedW (1 + c.length) w.length w
theorem markDisk_tot (c : List ByteArray) (w : List S70) (r l : Int) (hc : c.length ≤ 10000000) (hw : w.length ≤ 10000000) : Tot (fun x => x.1 = 1 + (c.length : Int) + 2 * w.length ∧ x.2.1.length = c.length ∧ x.2.2.length = w.length ∧ MarkedD x.2.1 x.2.2) (fun k => laws_markDisk.f k c w r l 1) := by
  unfold laws_markDisk.f laws_markWaitS.f
  refine Tot.bind (markS_tot 1 (by omega) c (by omega)) ?_
  rintro ⟨n, c'⟩ ⟨h1, h2, h3⟩
  simp only at h1 h2 h3 ⊢
  have := markW_l0 n (by omega) _ w 0 rfl (by omega) (by omega) (fun i hi => by omega)
  refine Tot.bind (by simpa using this) ?_
  rintro ⟨n', w'⟩ ⟨h4, h5, h6⟩
  simp only at h4 h5 h6 ⊢
  refine Tot.ret ⟨by omega, h2, h5, by rw [h2]; exact h3, ?_⟩
  rw [h5, h2]
  rw [h1] at h6; exact h6
theorem heldDisk_tot (c : List ByteArray) (w : List S70) (r l : Int) (hc : c.length ≤ 10000000) (hw : w.length ≤ 10000000) (h : MarkedD c w) : Tot (· = 1 + (c.length : Int) + 2 * w.length) (fun k => laws_heldDisk.f k c w r l 1) := by
  unfold laws_heldDisk.f laws_heldWaitS.f
  refine Tot.bind (heldS_tot 1 (by omega) c (by omega) h.1) ?_
  rintro t ht
  simp only [if_neg (show ¬ t < 0 by omega)]
  subst ht
  have := heldW_l0 (1 + c.length) (by omega) w (by omega) h.2 _ 0 rfl (by omega)
  refine Tot.bind (by simpa using this) ?_
  rintro t ht
  simp only [if_neg (show ¬ t < 0 by omega)]
  exact Tot.ret ht
/-! What the impl's disks are -/
theorem setD_len (c : List ByteArray) (w : List S70) (r l a b : Int) (n : Nat) (hc : c.length ≤ n) (hw : w.length ≤ n) : (if impl_DiskOk.ok c w r l = true ∧ -1 ≤ a ∧ -1 ≤ b then (c, w, a, b) else ([], [], 0, 0)).1.length ≤ n ∧ (if impl_DiskOk.ok c w r l = true ∧ -1 ≤ a ∧ -1 ≤ b then (c, w, a, b) else ([], [], 0, 0)).2.1.length ≤ n := by
  split
  · exact ⟨hc, hw⟩
  · exact ⟨Nat.zero_le _, Nat.zero_le _⟩

end Go.Proofs.Ytepihebkdnmppaa.Ag
