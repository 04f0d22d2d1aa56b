import Derived.Test.YtepihebkdnmppaaxAkAk0
import Derived.Test.YtepihebkdnmppaaxAkAk1
import Derived.Test.YtepihebkdnmppaaxAkAk10
import Derived.Test.YtepihebkdnmppaaxAkAk11
import Derived.Test.YtepihebkdnmppaaxAkAk2
import Derived.Test.YtepihebkdnmppaaxAkAk3
import Derived.Test.YtepihebkdnmppaaxAkAk4
import Derived.Test.YtepihebkdnmppaaxAkAk5
import Derived.Test.YtepihebkdnmppaaxAkAk6
import Derived.Test.YtepihebkdnmppaaxAkAk7
import Derived.Test.YtepihebkdnmppaaxAkAk8
import Derived.Test.YtepihebkdnmppaaxAkAk9
import Derived.Laws.Bits64
/- The plain side: what the printed Lean functions come to. Own work of this session, written out of templates by plain.py. -/
namespace Go.Proofs.Ytepihebkdnmppaa.Ak
open Go.RowKit Go.Proofs.YtepihebkdnmppaaV.PrintWords Go.Proofs.YtepihebkdnmppaaV.PrintLast Go.Proofs.YtepihebkdnmppaaV.PrintMore
set_option linter.unusedVariables false
set_option linter.unusedSimpArgs false

/-- From some rounds on f tells one answer, and P holds of it. -/
def Tot {α : Type} (P : α → Prop) (f : Nat → Option α) : Prop := ∃ K r, P r ∧ ∀ k, K ≤ k → f k = some r
theorem Tot.ret {α : Type} {P : α → Prop} {r : α} (h : P r) : Tot P (fun _ => some r) := ⟨0, r, h, fun _ _ => rfl⟩
theorem Tot.bind {α β : Type} {P : α → Prop} {Q : β → Prop} {f : Nat → Option α} {g : Nat → α → Option β} (hf : Tot P f) (hg : ∀ r, P r → Tot Q (fun k => g k r)) : Tot Q (fun k => (f k).bind (g k)) := by
  obtain ⟨K1, r, hr, h1⟩ := hf
  obtain ⟨K2, s, hs, h2⟩ := hg r hr
  refine ⟨max K1 K2, s, hs, fun k hk => ?_⟩
  show (f k).bind (g k) = some s
  rw [h1 k (by omega)]
  exact h2 k (by omega)
theorem Tot.mono {α : Type} {P Q : α → Prop} {f : Nat → Option α} (hf : Tot P f) (h : ∀ r, P r → Q r) : Tot Q f := by
  obtain ⟨K1, r, hr, h1⟩ := hf
  exact ⟨K1, r, h r hr, h1⟩
theorem Tot.succ {α : Type} {P : α → Prop} {f : Nat → Option α} (h : Tot P (fun k => f (k + 1))) : Tot P f := by
  obtain ⟨K1, r, hr, h1⟩ := h
  refine ⟨K1 + 1, r, hr, fun k hk => ?_⟩
  obtain ⟨j, rfl⟩ : ∃ j, k = j + 1 := ⟨k - 1, by omega⟩
  exact h1 j (by omega)
theorem Tot.congr {α : Type} {P : α → Prop} {f g : Nat → Option α} (h : Tot P g) (e : ∀ k, f k = g k) : Tot P f := by
  obtain rfl : f = g := funext e
  exact h
theorem Tot.of {α : Type} {P : α → Prop} {f : Nat → Option α} {r : α} (e : ∀ k, f k = some r) (h : P r) : Tot P f := ⟨0, r, h, fun k _ => e k⟩
theorem Tot.it {α : Type} {P : α → Prop} {f : Nat → Option α} (h : Tot P f) : ∃ k r, f k = some r ∧ P r := by
  obtain ⟨K1, r, hr, h1⟩ := h
  exact ⟨K1, r, h1 K1 (Nat.le_refl _), hr⟩
theorem w64 (n : Int) (h : -9223372036854775808 ≤ n) (h' : n ≤ 9223372036854775807) : wrap64 n = n := by unfold wrap64; omega
theorem rdOf_nat {α : Type} (d : α) (xs : List α) (i : Nat) : rdOf d xs (i : Int) = xs.getD i d := rfl
theorem drop_cons {α : Type} (d : α) (xs : List α) (i : Nat) (h : i < xs.length) : xs.drop i = xs.getD i d :: xs.drop (i + 1) := by
  rw [List.drop_eq_getElem_cons h, List.getD_eq_getElem?_getD, List.getElem?_eq_getElem h]; rfl
theorem wrap_succ (i : Nat) (h : i < 1000000000000) : wrap64 ((i : Int) + 1) = ((i + 1 : Nat) : Int) := by rw [w64 _ (by omega) (by omega)]; omega

/-! Draws -/
theorem bits_xor_nat (a b : Nat) (ha : a < 2 ^ 62) (hb : b < 2 ^ 62) : bits .xor .i64 a b = ((a ^^^ b : Nat) : Int) := by
  have ha' : a % 2 ^ 64 = a := Nat.mod_eq_of_lt (by omega)
  have hb' : b % 2 ^ 64 = b := Nat.mod_eq_of_lt (by omega)
  have hx := Nat.xor_lt_two_pow ha hb
  have e : (BitVec.ofNat 64 a ^^^ BitVec.ofNat 64 b).toNat = a ^^^ b := by rw [BitVec.toNat_xor, BitVec.toNat_ofNat, BitVec.toNat_ofNat, ha', hb']
  show IntKind.i64.wrap ((BitVec.ofInt 64 (a : Int) ^^^ BitVec.ofInt 64 (b : Int)).toNat : Int) = _
  rw [BitVec.ofInt_natCast, BitVec.ofInt_natCast, e, IntKind.wrap_i64]; omega
theorem xor_nonneg {a b : Int} (ha : 0 ≤ a) (ha' : a < 2 ^ 62) (hb : 0 ≤ b) (hb' : b < 2 ^ 62) : 0 ≤ bits .xor .i64 a b := by
  obtain ⟨x, rfl⟩ := Int.eq_ofNat_of_zero_le ha
  obtain ⟨y, rfl⟩ := Int.eq_ofNat_of_zero_le hb
  rw [bits_xor_nat x y (by omega) (by omega)]; omega
/-- Numbers of a code: bytes, at most 2000 of them. -/
def Code (s : List Int) : Prop := s.length ≤ 2000 ∧ ∀ i : Int, 0 ≤ rd s i ∧ rd s i ≤ 255
theorem code_of {s : List Int} (h : ∀ x ∈ s, (Lit.int .u8 x).wf = true) (hl : s.length ≤ 2000) : Code s := by
  refine ⟨hl, fun i => ?_⟩
  unfold rd
  by_cases hi : i.toNat < s.length
  · rw [List.getD_eq_getElem?_getD, List.getElem?_eq_getElem hi]
    have hx := h s[i.toNat] (List.getElem_mem hi)
    simp [Lit.wf, IntKind.min, IntKind.max, IntKind.signed, IntKind.bits] at hx
    simp; omega
  · rw [List.getD_eq_getElem?_getD, List.getElem?_eq_none (by omega)]
    simp
theorem tmod_in {a n : Int} (ha : 0 ≤ a) (hn : 1 ≤ n) : 0 ≤ Int.tmod a n ∧ Int.tmod a n < n :=
  ⟨Int.tmod_nonneg n ha, Int.tmod_lt_of_pos a (by omega)⟩
theorem pick_tot {s : List Int} (hs : Code s) {p n : Int} (hp : 0 ≤ p) (hp' : p < 1000000000) (hn : 1 ≤ n) :
    Tot (fun r => (0 ≤ r.1 ∧ r.1 < n) ∧ r.2 = p + 1) (fun k => spec_l1Rd_pick.f k s p n) := by
  unfold spec_l1Rd_pick.f
  have e1 : wrap64 (p + 1) = p + 1 := w64 _ (by omega) (by omega)
  have e2 : wrap64 (p + 1 - 1) = p := by rw [w64 _ (by omega) (by omega)]; omega
  simp only [if_neg (show ¬ n < 1 by omega), e1]
  apply Tot.succ
  simp only [spec_l1Rd_pick.j0, e2]
  by_cases h0 : (s.length : Int) = 0
  · simp only [h0, beq_self_eq_true, if_true]
    exact Tot.ret ⟨by omega, rfl⟩
  have hb : ((s.length : Int) == 0) = false := by simpa using h0
  simp only [hb, Bool.false_eq_true, if_false, if_neg h0, if_neg (show ¬ n = 0 by omega), if_pos hp]
  have hl : 1 ≤ (s.length : Int) := by omega
  by_cases h1 : p < (s.length : Int)
  · simp only [if_pos h1]
    have r := hs.2 p
    rw [w64 _ (by omega) (by omega)]
    exact Tot.ret ⟨tmod_in r.1 hn, rfl⟩
  · simp only [if_neg h1]
    have m1 := tmod_in hp hl
    have e3 : wrap64 (wrap64 (p * 7) + 3) = p * 7 + 3 := by rw [w64 (p * 7) (by omega) (by omega), w64 _ (by omega) (by omega)]
    have m2 := tmod_in (show 0 ≤ p * 7 + 3 by omega) hl
    rw [e3]
    simp only [if_pos m1.1, if_pos m1.2, if_pos m2.1, if_pos m2.2]
    have r1 := hs.2 (Int.tmod p (s.length : Int))
    have r2 := hs.2 (Int.tmod (p * 7 + 3) (s.length : Int))
    generalize rd s (Int.tmod p (s.length : Int)) = a at r1 ⊢
    generalize rd s (Int.tmod (p * 7 + 3) (s.length : Int)) = b at r2 ⊢
    have d1 : 0 ≤ Int.tdiv p (s.length : Int) := Int.tdiv_nonneg hp (by omega)
    have d2 : Int.tdiv p (s.length : Int) ≤ p := by rw [Int.tdiv_eq_ediv_of_nonneg hp]; exact Int.ediv_le_self _ hp
    generalize Int.tdiv p (s.length : Int) = d at d1 d2 ⊢
    simp only [w64 a (by omega) (by omega), w64 b (by omega) (by omega), w64 d (by omega) (by omega), w64 (a * 131) (by omega) (by omega), w64 (b * 1117) (by omega) (by omega), w64 (p * 29) (by omega) (by omega), w64 (d * 53) (by omega) (by omega), w64 (a * 131 + b * 1117) (by omega) (by omega), w64 (a * 131 + b * 1117 + p * 29) (by omega) (by omega), w64 (a * 131 + b * 1117 + p * 29 + d * 53) (by omega) (by omega)]
    generalize hz : a * 131 + b * 1117 + p * 29 + d * 53 = z
    have z0 : 0 ≤ z := by omega
    have z1 : z < 1000000000000 := by omega
    have t0 : 0 ≤ Int.tdiv z 64 := Int.tdiv_nonneg z0 (by omega)
    have t1 : Int.tdiv z 64 ≤ z := by rw [Int.tdiv_eq_ediv_of_nonneg z0]; exact Int.ediv_le_self _ z0
    rw [w64 (Int.tdiv z 64) (by omega) (by omega)]
    exact Tot.ret ⟨tmod_in (xor_nonneg z0 (by omega) t0 (by omega)) hn, rfl⟩

theorem one_tot {s : List Int} (hs : Code s) {p : Int} (hp : 0 ≤ p) (hp' : p < 1000000000) {l : List Int} (hl : 1 ≤ l.length) :
    Tot (fun r => r.1 ∈ l ∧ r.2 = p + 1) (fun k => spec_l1Rd_one.f k s p l) := by
  unfold spec_l1Rd_one.f
  refine Tot.bind (pick_tot hs hp hp' (by omega)) ?_
  rintro ⟨a, b⟩ ⟨⟨h1, h2⟩, h3⟩
  simp only [if_pos h1, if_pos h2]
  refine Tot.ret ⟨?_, h3⟩
  unfold rd
  have hi : a.toNat < l.length := by omega
  rw [List.getD_eq_getElem?_getD, List.getElem?_eq_getElem hi]
  exact List.getElem_mem hi
theorem of_tot {s : List Int} (hs : Code s) {p : Int} (hp : 0 ≤ p) (hp' : p < 1000000000) {l : List ByteArray} (hl : 1 ≤ l.length) :
    Tot (fun r => r.1 ∈ l ∧ r.2 = p + 1) (fun k => spec_l1Rd_of.f k s p l) := by
  unfold spec_l1Rd_of.f
  refine Tot.bind (pick_tot hs hp hp' (by omega)) ?_
  rintro ⟨a, b⟩ ⟨⟨h1, h2⟩, h3⟩
  simp only [if_pos h1, if_pos h2]
  refine Tot.ret ⟨?_, h3⟩
  unfold rdOf
  have hi : a.toNat < l.length := by omega
  rw [List.getD_eq_getElem?_getD, List.getElem?_eq_getElem hi]
  exact List.getElem_mem hi
theorem page_tot {s : List Int} (hs : Code s) {p : Int} (hp : 0 ≤ p) (hp' : p < 1000000000) :
    Tot (fun r => r.1.size ≤ 100 ∧ r.2 = p + 1) (fun k => spec_l15PageText.f k s p) := by
  unfold spec_l15PageText.f
  refine Tot.bind (of_tot hs hp hp' (by simp)) ?_
  rintro ⟨a, b⟩ ⟨h1, h2⟩
  refine Tot.ret ⟨?_, h2⟩
  show a.size ≤ 100
  simp only [List.mem_cons, List.not_mem_nil, or_false] at h1
  rcases h1 with rfl | rfl | rfl | rfl | rfl | rfl | rfl | rfl | rfl | rfl <;> decide
theorem many_tot (x : ByteArray) (hx : x.size ≤ 10) : ∀ (n : Nat) (y : ByteArray), n ≤ 10000 → y.size + n * 10 ≤ 1000000 → Tot (fun _ => True) (fun k => spec_l1Many.l0 k x n y)
  | 0, y, _, _ => Tot.succ (by simp only [spec_l1Many.l0]; exact Tot.ret trivial)
  | n + 1, y, h, hy => by
    apply Tot.succ
    have e : wrap64 (((n + 1 : Nat) : Int) - 1) = (n : Int) := by rw [w64 _ (by omega) (by omega)]; omega
    simp only [spec_l1Many.l0, if_pos (show ((n + 1 : Nat) : Int) > 0 by omega), if_pos (show y.size + x.size ≤ 9223372036854775807 by omega), e]
    exact many_tot x hx n (y ++ x) (by omega) (by rw [ByteArray.size_append]; omega)

/-! The disk -/
theorem less_eq (n : Int) (h : -1 ≤ n) (h' : n < 9223372036854775808) : spec_l7Less.f n = some (lessP n) := by
  unfold spec_l7Less.f lessP mx mn
  rw [w64 _ (by omega) (by omega)]
  by_cases h0 : n > 0
  · rw [if_pos h0]; congr 1; (repeat' split) <;> omega
  · rw [if_neg h0]; congr 1; (repeat' split) <;> omega
theorem wait_eq (x : S70) : spec_l7Wait.f x.f0 x.f1 = some (!impl_DiskOk.W.p x) := by
  unfold spec_l7Wait.f spec_l1In.f impl_DiskOk.W.p
  by_cases h0 : x.f0 ≥ 0
  · by_cases h1 : x.f0 ≤ 41
    · by_cases h2 : (x.f1.size : Int) ≤ 1200
      · have h3 : ¬ (1200 : Int) < x.f1.size := by omega
        simp [h0, h1, h2, h3]
      · have h3 : (1200 : Int) < x.f1.size := by omega
        simp [h0, h1, h2, h3]
    · simp [h0, h1]
  · simp [h0]
theorem ok_l1 (c : List ByteArray) (w : List S70) (r l : Int) (hw : w.length < 1000000000) (n : Nat) : ∀ i : Nat, w.length - i = n → Tot (· = (!(w.drop i).any impl_DiskOk.W.p)) (fun k => spec_l7Ok.l1 k i c w r l) := by
  induction n with
  | zero =>
    intro i hn
    apply Tot.succ
    simp only [spec_l7Ok.l1, if_neg (show ¬ (i : Int) < (w.length : Int) by omega)]
    rw [List.drop_of_length_le (by omega)]
    exact Tot.ret rfl
  | succ n ih =>
    intro i hn
    apply Tot.succ
    have e : rd_T70 w (i : Int) = w.getD i z70 := rfl
    simp only [spec_l7Ok.l1, if_pos (show (i : Int) < (w.length : Int) by omega), if_pos (show (0 : Int) ≤ (i : Int) by omega), wait_eq, Option.bind_some, e]
    rw [drop_cons z70 w i (by omega), List.any_cons]
    cases hp : impl_DiskOk.W.p (w.getD i z70) with
    | true => exact Tot.ret rfl
    | false =>
      simp only [Bool.not_false, if_true, Bool.false_or, wrap_succ i (by omega)]
      exact ih (i + 1) (by omega)
theorem ok_l0 (c : List ByteArray) (w : List S70) (r l : Int) (hc : c.length < 1000000000) (hw : w.length < 1000000000) (n : Nat) : ∀ i : Nat, c.length - i = n → Tot (· = (!(c.drop i).any impl_DiskOk.C.p && !w.any impl_DiskOk.W.p)) (fun k => spec_l7Ok.l0 k i c w r l) := by
  induction n with
  | zero =>
    intro i hn
    apply Tot.succ
    simp only [spec_l7Ok.l0, if_neg (show ¬ (i : Int) < (c.length : Int) by omega)]
    rw [List.drop_of_length_le (by omega)]
    exact ok_l1 c w r l hw _ 0 rfl
  | succ n ih =>
    intro i hn
    apply Tot.succ
    simp only [spec_l7Ok.l0, if_pos (show (i : Int) < (c.length : Int) by omega), if_pos (show (0 : Int) ≤ (i : Int) by omega)]
    rw [drop_cons ByteArray.empty c i (by omega), List.any_cons]
    by_cases hp : ((rdOf ByteArray.empty c (i : Int)).size : Int) > 1200
    · rw [show impl_DiskOk.C.p (c.getD i ByteArray.empty) = true from decide_eq_true hp]
      simp only [if_pos hp]
      exact Tot.ret rfl
    · rw [show impl_DiskOk.C.p (c.getD i ByteArray.empty) = false from decide_eq_false hp]
      simp only [if_neg hp, Bool.false_or, wrap_succ i (by omega)]
      exact ih (i + 1) (by omega)
theorem ok_j0 (b : Bool) (c : List ByteArray) (w : List S70) (r l : Int) (hc : c.length < 1000000000) (hw : w.length < 1000000000) : Tot (· = (!b && (!c.any impl_DiskOk.C.p && !w.any impl_DiskOk.W.p))) (fun k => spec_l7Ok.j0 k b c w r l) := by
  apply Tot.succ
  cases b with
  | true => simp only [spec_l7Ok.j0, if_true]; exact Tot.ret rfl
  | false => simp only [spec_l7Ok.j0, Bool.false_eq_true, if_false, Bool.not_false, Bool.true_and]; exact ok_l0 c w r l hc hw _ 0 rfl
theorem ok_tot (c : List ByteArray) (w : List S70) (r l : Int) (hc : c.length < 1000000000) (hw : w.length < 1000000000) : Tot (· = impl_DiskOk.ok c w r l) (fun k => spec_l7Ok.f k c w r l) := by
  have hj := fun b => ok_j0 b c w r l hc hw
  unfold spec_l7Ok.f impl_DiskOk.ok impl_DiskOk.C.any impl_DiskOk.W.any
  by_cases h1 : (c.length : Int) = 42
  · by_cases h2 : (w.length : Int) > 100
    · simp only [if_pos h1, if_pos h2]
      refine (hj true).mono fun z hz => ?_
      have : ¬ (w.length : Int) ≤ 100 := by omega
      rw [hz]; simp [this, h2]
    · by_cases h3 : r < -1
      · simp only [if_pos h1, if_neg h2, if_pos h3]
        refine (hj true).mono fun z hz => ?_
        have : ¬ r ≥ -1 := by omega
        rw [hz]; simp [this, h3]
      · simp only [if_pos h1, if_neg h2, if_neg h3]
        refine (hj _).mono fun z hz => ?_
        rw [hz]
        by_cases h4 : l < -1
        · have h5 : ¬ l ≥ -1 := by omega
          simp [h4, h5]
        · have h5 : l ≥ -1 := by omega
          have h6 : r ≥ -1 := by omega
          have h7 : (w.length : Int) ≤ 100 := by omega
          have h8 : ¬ l < -1 := by omega
          simp only [decide_eq_true h1, decide_eq_true h5, decide_eq_true h6, decide_eq_true h7, decide_eq_false h8, Bool.not_false, Bool.true_and, Bool.and_true]
  · simp only [if_neg h1]
    refine (hj true).mono fun z hz => ?_
    rw [hz]; simp [h1]
theorem specOk_tot (c : List ByteArray) (w : List S70) (r l : Int) (hc : c.length < 1000000000) (hw : w.length < 1000000000) : Tot (· = impl_DiskOk.ok c w r l) (fun k => spec_DiskOk.f k c w r l) := by
  unfold spec_DiskOk.f
  exact Tot.bind (ok_tot c w r l hc hw) fun z hz => Tot.ret hz
theorem copy_eq (c : List ByteArray) (w : List S70) (r l : Int) (hc : c.length < 1000000000) (hw : w.length < 1000000000) : spec_l7Copy.f c w r l = some (c, w, r, l) := by
  unfold spec_l7Copy.f
  simp only [Option.bind_some, List.length_nil, Nat.zero_add, List.nil_append, if_pos (show c.length < 8796093022208 by omega), if_pos (show w.length < 5864062014805 by omega)]
theorem write_tot (c : List ByteArray) (w : List S70) (r l at_ : Int) (t : ByteArray) (hc : c.length < 1000000000) (hw : w.length ≤ 100) (hr : -1 ≤ r) (hl : -1 ≤ l) (hr' : r < 9223372036854775808) (hl' : l < 9223372036854775808) : Tot (· = writeD c w r l at_ t) (fun k => spec_l7Write.f k c w r l at_ t) := by
  unfold spec_l7Write.f writeD
  rw [copy_eq c w r l hc (by omega)]
  by_cases h0 : l = 0
  · simp only [if_pos h0, Option.bind_some, if_pos (show (l == 0) = true by simpa using h0)]
    exact Tot.ret rfl
  simp only [if_neg h0, wait_eq ⟨at_, t⟩, Option.bind_some, if_neg (show ¬ (l == 0) = true by simpa using h0)]
  have hj : ∀ b : Bool, Tot (· = if b = true then (c, w, r, l, false) else (c, w ++ [⟨at_, t⟩], lessP r, lessP l, true)) (fun k => spec_l7Write.j0 k b c w r l at_ t) := by
    intro b
    apply Tot.succ
    cases b with
    | true => simp only [spec_l7Write.j0, if_true, copy_eq c w r l hc (show w.length < 1000000000 by omega), Option.bind_some]; exact Tot.ret rfl
    | false =>
      simp only [spec_l7Write.j0, Bool.false_eq_true, if_false, copy_eq c w r l hc (show w.length < 1000000000 by omega), Option.bind_some, if_pos (show w.length < 5864062014805 by omega), less_eq l hl hl', less_eq r hr hr']
      exact Tot.ret rfl
  have e : writeOk w r l at_ t = (!impl_DiskOk.W.p ⟨at_, t⟩ && (!(r == 0) && !((w.length : Int) == 100))) := by
    unfold writeOk impl_DiskOk.W.p
    by_cases h1 : 0 ≤ at_ ∧ at_ ≤ 41
    · by_cases h2 : (t.size : Int) ≤ 1200
      · have h3 : ¬ (t.size : Int) > 1200 := by omega
        rw [decide_eq_true h1, decide_eq_true h1.1, decide_eq_true h1.2, decide_eq_true h2, decide_eq_false h3]; rfl
      · have h3 : (t.size : Int) > 1200 := by omega
        rw [decide_eq_true h1, decide_eq_true h1.1, decide_eq_true h1.2, decide_eq_false h2, decide_eq_true h3]; rfl
    · rw [decide_eq_false h1]
      by_cases h2 : 0 ≤ at_
      · have h3 : ¬ at_ ≤ 41 := fun h => h1 ⟨h2, h⟩
        rw [decide_eq_true h2, decide_eq_false h3]; rfl
      · rw [decide_eq_false h2]; rfl
  rw [e]
  cases hp : impl_DiskOk.W.p ⟨at_, t⟩ with
  | true => exact hj true
  | false =>
    simp only [Bool.not_false, if_true, Bool.true_and]
    by_cases h1 : r = 0
    · simp only [if_pos h1, show (r == 0) = true by simpa using h1]
      exact hj true
    · simp only [if_neg h1, show (r == 0) = false by simpa using h1]
      by_cases h2 : (w.length : Int) ≥ 100
      · have h3 : ((w.length : Int) == 100) = true := by simp; omega
        rw [h3, decide_eq_true h2]; exact hj true
      · have h3 : ((w.length : Int) == 100) = false := by simp; omega
        rw [h3, decide_eq_false h2]; exact hj false

theorem any_append_false {w : List S70} {x : S70} (h : w.any impl_DiskOk.W.p = false) (hx : impl_DiskOk.W.p x = false) : (w ++ [x]).any impl_DiskOk.W.p = false := by simp only [List.any_append, h, List.any_cons, hx, List.any_nil, Bool.or_self]
theorem wait_at {w : List S70} (h : w.any impl_DiskOk.W.p = false) (i : Nat) (hi : i < w.length) : 0 ≤ (rd_T70 w i).f0 ∧ (rd_T70 w i).f0 ≤ 41 ∧ (rd_T70 w i).f1.size ≤ 1200 := by
  have hm := (List.any_eq_false.mp h) (rd_T70 w i) (by simp [rd_T70, List.getD_eq_getElem?_getD, List.getElem?_eq_getElem hi])
  simp [impl_DiskOk.W.p] at hm
  omega
theorem writeOk_p {w : List S70} {r l at_ : Int} {t : ByteArray} (h : writeOk w r l at_ t = true) : impl_DiskOk.W.p ⟨at_, t⟩ = false := by
  unfold writeOk at h
  unfold impl_DiskOk.W.p
  simp only [Bool.and_eq_true, decide_eq_true_eq] at h
  have h3 : ¬ (t.size : Int) > 1200 := by omega
  simp only [decide_eq_true h.1.1, decide_eq_true h.1.2, decide_eq_false h3]; rfl
theorem applyW_all {c : List ByteArray} {w : List S70} (h : ∀ x ∈ c, x.size ≤ 1200) (hw : w.any impl_DiskOk.W.p = false) : ∀ x ∈ applyW c w, x.size ≤ 1200 := by
  unfold applyW
  induction w generalizing c with
  | nil => exact h
  | cons a w ih =>
    simp only [List.any_cons, Bool.or_eq_false_iff] at hw
    refine ih ?_ hw.2
    intro x hx
    rcases List.mem_or_eq_of_mem_set hx with h1 | h1
    · exact h x h1
    · subst h1
      have := hw.1
      simp [impl_DiskOk.W.p] at this
      omega
theorem sync_l0 (c : List ByteArray) (w : List S70) (r l : Int) (hc : c.length = 42) (hw : w.length ≤ 1000) (hl : -1 ≤ l) (hl' : l < 9223372036854775808) (hv : w.any impl_DiskOk.W.p = false) (w' : List S70) (n : Nat) :
    ∀ (i : Nat), w.length - i = n → i ≤ w.length → Tot (· = (applyW c w, ([] : List S70), r, lessP l)) (fun k => spec_l7Sync.l0 k i c w r l (applyW c (w.take i)) w' r l) := by
  induction n with
  | zero =>
    intro i hn hi
    apply Tot.succ
    simp only [spec_l7Sync.l0, if_neg (show ¬ (i : Int) < (w.length : Int) by omega), less_eq l hl (by omega), Option.bind_some]
    rw [List.take_of_length_le (by omega)]
    exact Tot.ret rfl
  | succ n ih =>
    intro i hn hi
    apply Tot.succ
    have ha := wait_at hv i (by omega)
    have hlen : (applyW c (w.take i)).length = c.length := applyW_length _ _
    simp only [spec_l7Sync.l0, if_pos (show (i : Int) < (w.length : Int) by omega), if_pos (show (0 : Int) ≤ (i : Int) by omega), if_pos ha.1, hlen, if_pos (show (rd_T70 w i).f0 < (c.length : Int) by omega), wrap_succ i (by omega)]
    rw [← applyW_snoc c w i (by omega)]
    exact ih (i + 1) (by omega) (by omega)
theorem sync_tot (c : List ByteArray) (w : List S70) (r l : Int) (hc : c.length = 42) (hw : w.length ≤ 1000) (hl : -1 ≤ l) (hl' : l < 9223372036854775808) (hv : w.any impl_DiskOk.W.p = false) :
    Tot (· = syncD c w r l) (fun k => spec_l7Sync.f k c w r l) := by
  unfold spec_l7Sync.f syncD
  rw [copy_eq c w r l (by omega) (by omega)]
  by_cases h0 : l = 0
  · simp only [if_pos h0, Option.bind_some, if_pos (show (l == 0) = true by simpa using h0)]
    exact Tot.ret rfl
  · simp only [if_neg h0, Option.bind_some, if_neg (show ¬ (l == 0) = true by simpa using h0)]
    exact sync_l0 c w r l hc hw hl hl' hv w _ 0 rfl (by omega)

/-- A disk that is being drawn: at most n waits. -/
def Drawn (n : Int) (c : List ByteArray) (w : List S70) (r l : Int) : Prop := c.length = 42 ∧ (∀ x ∈ c, x.size ≤ 1200) ∧ (w.length : Int) ≤ n ∧ w.any impl_DiskOk.W.p = false ∧ r = -1 ∧ l = -1
theorem lessP_neg : lessP (-1) = -1 := by decide +kernel
theorem drawn_write {n : Int} {c : List ByteArray} {w : List S70} {r l : Int} (h : Drawn n c w r l) (at_ : Int) (t : ByteArray) : Drawn (n + 1) (writeD c w r l at_ t).1 (writeD c w r l at_ t).2.1 (writeD c w r l at_ t).2.2.1 (writeD c w r l at_ t).2.2.2.1 := by
  obtain ⟨h1, h2, h3, h4, rfl, rfl⟩ := h
  unfold writeD
  rw [if_neg (show ¬ ((-1 : Int) == 0) = true by decide)]
  by_cases hk : writeOk w (-1) (-1) at_ t = true
  · rw [if_pos hk]
    exact ⟨h1, h2, by simp only [List.length_append, List.length_singleton]; omega, any_append_false h4 (writeOk_p hk), lessP_neg, lessP_neg⟩
  · rw [if_neg hk]
    exact ⟨h1, h2, by simp only; omega, h4, rfl, rfl⟩
theorem drawn_sync {n : Int} {c : List ByteArray} {w : List S70} {r l : Int} (h : Drawn n c w r l) (hn : 0 ≤ n) : Drawn n (syncD c w r l).1 (syncD c w r l).2.1 (syncD c w r l).2.2.1 (syncD c w r l).2.2.2 := by
  obtain ⟨h1, h2, h3, h4, rfl, rfl⟩ := h
  unfold syncD
  rw [if_neg (show ¬ ((-1 : Int) == 0) = true by decide)]
  exact ⟨by simp only [applyW_length]; exact h1, applyW_all h2 h4, by simp; omega, rfl, rfl, lessP_neg⟩
/-- What l15Disk draws. -/
def Disk0 (P : Int) (r : List ByteArray × List S70 × Int × Int × Int) : Prop :=
  r.1.length = 42 ∧ (∀ x ∈ r.1, x.size ≤ 1200) ∧ (r.2.1.length : Int) ≤ 20 ∧ r.2.1.any impl_DiskOk.W.p = false ∧ (-1 ≤ r.2.2.1 ∧ r.2.2.1 ≤ 3) ∧ (-1 ≤ r.2.2.2.1 ∧ r.2.2.2.1 ≤ 3) ∧ (0 ≤ r.2.2.2.2 ∧ r.2.2.2.2 ≤ P)
theorem disk_l1 {s : List Int} (hs : Code s) (n : Nat) : ∀ (c : List ByteArray) (w : List S70) (r l p P : Int), Drawn (20 - n) c w r l → 0 ≤ p → p + n * 3 + 2 ≤ P → P < 1000000 → Tot (Disk0 P) (fun k => spec_l15Disk.l1 k n s p c w r l) := by
  induction n with
  | zero =>
    intro c w r l p P hD hp hP hP'
    apply Tot.succ
    simp only [spec_l15Disk.l1, if_neg (show ¬ ((0 : Nat) : Int) > 0 by omega)]
    refine Tot.bind (one_tot hs hp (by omega) (by simp)) ?_
    rintro ⟨a, p1⟩ ⟨ha, rfl⟩
    refine Tot.bind (one_tot hs (by omega) (by omega) (by simp)) ?_
    rintro ⟨b, p2⟩ ⟨hb, rfl⟩
    simp only [List.mem_cons, List.not_mem_nil, or_false] at ha hb
    obtain ⟨h1, h2, h3, h4, _, _⟩ := hD
    refine Tot.ret ⟨h1, h2, by simp only; omega, h4, ?_, ?_, ?_⟩ <;> simp only <;> omega
  | succ n ih =>
    intro c w r l p P hD hp hP hP'
    apply Tot.succ
    simp only [spec_l15Disk.l1, if_pos (show ((n + 1 : Nat) : Int) > 0 by omega), show wrap64 (((n + 1 : Nat) : Int) - 1) = (n : Int) by rw [w64 _ (by omega) (by omega)]; omega]
    refine Tot.bind (pick_tot hs hp (by omega) (by omega)) ?_
    rintro ⟨a, p1⟩ ⟨ha, rfl⟩
    refine Tot.bind (one_tot hs (by simp only; omega) (by simp only; omega) (by simp)) ?_
    rintro ⟨b, p2⟩ ⟨hb, rfl⟩
    refine Tot.bind (page_tot hs (by simp only; omega) (by simp only; omega)) ?_
    rintro ⟨t, p3⟩ ⟨ht, rfl⟩
    have hD' := hD
    obtain ⟨h1, h2, h3, h4, hr, hl⟩ := hD'
    refine Tot.bind (write_tot c w r l b t (by omega) (by omega) (by omega) (by omega) (by omega) (by omega)) ?_
    rintro d rfl
    refine ih _ _ _ _ _ P ?_ (by simp only; omega) (by simp only; omega) hP'
    have := drawn_write hD b t
    rwa [show (20 - ((n + 1 : Nat) : Int) + 1) = 20 - (n : Int) by omega] at this
theorem disk_j1 {s : List Int} (hs : Code s) (c : List ByteArray) (w : List S70) (r l p P : Int) (hD : Drawn 14 c w r l) (hp : 0 ≤ p) (hP : p + 30 ≤ P) (hP' : P < 1000000) : Tot (Disk0 P) (fun k => spec_l15Disk.j1 k s p c w r l) := by
  apply Tot.succ
  simp only [spec_l15Disk.j1]
  refine Tot.bind (pick_tot hs hp (by omega) (by omega)) ?_
  rintro ⟨a, p1⟩ ⟨ha, rfl⟩
  obtain ⟨n, rfl⟩ := Int.eq_ofNat_of_zero_le ha.1
  simp only at ha
  obtain ⟨h1, h2, h3, h4⟩ := hD
  exact disk_l1 hs n c w r l _ P ⟨h1, h2, by omega, h4⟩ (by omega) (by omega) hP'
theorem disk_l0 {s : List Int} (hs : Code s) (n : Nat) : ∀ (c : List ByteArray) (w : List S70) (r l p P : Int), Drawn (14 - n) c w r l → n ≤ 10 → 0 ≤ p → p + n * 3 + 40 ≤ P → P < 1000000 → Tot (Disk0 P) (fun k => spec_l15Disk.l0 k n s p c w r l) := by
  induction n with
  | zero =>
    intro c w r l p P hD hn hp hP hP'
    apply Tot.succ
    simp only [spec_l15Disk.l0, if_neg (show ¬ ((0 : Nat) : Int) > 0 by omega)]
    refine Tot.bind (pick_tot hs hp (by omega) (by omega)) ?_
    rintro ⟨a, p1⟩ ⟨ha, rfl⟩
    by_cases h0 : a = 0
    · simp only [if_pos h0]
      have hD' := hD
      obtain ⟨h1, h2, h3, h4, hr, hl⟩ := hD'
      refine Tot.bind (sync_tot c w r l h1 (by omega) (by omega) (by omega) h4) ?_
      rintro d rfl
      exact disk_j1 hs _ _ _ _ _ P (drawn_sync hD (by omega)) (by omega) (by omega) hP'
    · simp only [if_neg h0]
      exact disk_j1 hs _ _ _ _ _ P hD (by omega) (by omega) hP'
  | succ n ih =>
    intro c w r l p P hD hn hp hP hP'
    apply Tot.succ
    simp only [spec_l15Disk.l0, if_pos (show ((n + 1 : Nat) : Int) > 0 by omega), show wrap64 (((n + 1 : Nat) : Int) - 1) = (n : Int) by rw [w64 _ (by omega) (by omega)]; omega]
    refine Tot.bind (pick_tot hs hp (by omega) (by omega)) ?_
    rintro ⟨a, p1⟩ ⟨ha, rfl⟩
    refine Tot.bind (one_tot hs (by simp only; omega) (by simp only; omega) (by simp)) ?_
    rintro ⟨b, p2⟩ ⟨hb, rfl⟩
    refine Tot.bind (page_tot hs (by simp only; omega) (by simp only; omega)) ?_
    rintro ⟨t, p3⟩ ⟨ht, rfl⟩
    have hD' := hD
    obtain ⟨h1, h2, h3, h4, hr, hl⟩ := hD'
    refine Tot.bind (write_tot c w r l b t (by omega) (by omega) (by omega) (by omega) (by omega) (by omega)) ?_
    rintro d rfl
    refine ih _ _ _ _ _ P ?_ (by omega) (by simp only; omega) (by simp only; omega) hP'
    have := drawn_write hD b t
    rwa [show (14 - ((n + 1 : Nat) : Int) + 1) = 14 - (n : Int) by omega] at this
theorem disk_tot {s : List Int} (hs : Code s) {p P : Int} (hp : 0 ≤ p) (hP : p + 100 ≤ P) (hP' : P < 1000000) : Tot (Disk0 P) (fun k => spec_l15Disk.f k s p) := by
  unfold spec_l15Disk.f spec_DiskNew.f
  simp only [if_pos (show 42 ≤ 17592186044416 by decide), Option.bind_some]
  refine Tot.bind (pick_tot hs hp (by omega) (by omega)) ?_
  rintro ⟨a, p1⟩ ⟨ha, rfl⟩
  obtain ⟨n, rfl⟩ := Int.eq_ofNat_of_zero_le ha.1
  simp only at ha
  refine disk_l0 hs n _ _ _ _ _ P ⟨by simp, ?_, by simp; omega, rfl, rfl, rfl⟩ (by omega) (by simp only; omega) (by simp only; omega) hP'
  intro x hx
  rw [List.eq_of_mem_replicate hx]; decide
/-- What l15AnyDisk draws. -/
def AnyDisk (P : Int) (r : List ByteArray × List S70 × Int × Int × Int) : Prop :=
  r.1.length ≤ 42 ∧ r.2.1.length ≤ 101 ∧ (-2 ≤ r.2.2.1 ∧ r.2.2.1 ≤ 3) ∧ (-2 ≤ r.2.2.2.1 ∧ r.2.2.2.1 ≤ 3) ∧ (0 ≤ r.2.2.2.2 ∧ r.2.2.2.2 ≤ P)
theorem any_l0 {s : List Int} (hs : Code s) (n : Nat) : ∀ (c : List ByteArray) (w : List S70) (r l p P : Int), c.length ≤ 42 → 102 - w.length = n → w.length ≤ 101 → (-2 ≤ r ∧ r ≤ 3) → (-2 ≤ l ∧ l ≤ 3) → 0 ≤ p → p + n ≤ P → P < 1000000 → Tot (AnyDisk P) (fun k => spec_l15AnyDisk.l0 k s p c w r l) := by
  induction n with
  | zero => intro c w r l p P hc hn hw; omega
  | succ n ih =>
    intro c w r l p P hc hn hw hr hl hp hP hP'
    apply Tot.succ
    simp only [spec_l15AnyDisk.l0]
    refine Tot.bind (pick_tot hs hp (by omega) (by omega)) ?_
    rintro ⟨a, p1⟩ ⟨ha, rfl⟩
    simp only at ha
    simp only [w64 (100 + a) (by omega) (by omega)]
    by_cases h : (w.length : Int) < 100 + a
    · simp only [if_pos h, if_pos (show w.length < 5864062014805 by omega)]
      exact ih _ _ _ _ _ P hc (by simp only [List.length_append, List.length_singleton]; omega) (by simp only [List.length_append, List.length_singleton]; omega) hr hl (by omega) (by omega) hP'
    · simp only [if_neg h]
      exact Tot.ret ⟨hc, hw, hr, hl, by simp only; omega⟩
theorem anyDisk_tot {s : List Int} (hs : Code s) {p P : Int} (hp : 0 ≤ p) (hP : p + 300 ≤ P) (hP' : P < 1000000) : Tot (AnyDisk P) (fun k => spec_l15AnyDisk.f k s p) := by
  unfold spec_l15AnyDisk.f
  refine Tot.bind (disk_tot hs hp (P := p + 100) (by omega) (by omega)) ?_
  rintro ⟨c, w, r, l, q⟩ ⟨h1, h2, h3, h4, h5, h6, h7⟩
  simp only at h1 h2 h3 h4 h5 h6 h7
  refine Tot.bind (pick_tot (p := q) hs h7.1 (by omega) (by omega)) ?_
  rintro ⟨a, p1⟩ ⟨ha, rfl⟩
  simp only at ha ⊢
  by_cases h0 : a = 0
  · simp only [if_pos h0, if_pos (show (1 : Int) ≤ (c.length : Int) by omega)]
    refine Tot.ret ⟨?_, ?_, ?_, ?_, ?_⟩ <;> simp only [List.length_drop] <;> omega
  simp only [if_neg h0]
  by_cases h0 : a = 1
  · simp only [if_pos h0]
    refine Tot.ret ⟨?_, ?_, ?_, ?_, ?_⟩ <;> simp only <;> omega
  simp only [if_neg h0]
  by_cases h0 : a = 2
  · simp only [if_pos h0]
    refine Tot.bind (one_tot hs (by omega) (by omega) (by simp)) ?_
    rintro ⟨b, p2⟩ ⟨hb, rfl⟩
    simp only [if_pos (show w.length < 5864062014805 by omega)]
    refine Tot.ret ⟨?_, ?_, ?_, ?_, ?_⟩ <;> simp only [List.length_append, List.length_singleton] <;> omega
  simp only [if_neg h0]
  by_cases h0 : a = 3
  · simp only [if_pos h0]
    unfold spec_l1Many.f
    refine Tot.bind (many_tot ⟨#[99]⟩ (by decide) 1201 ⟨#[]⟩ (by omega) (by decide)) ?_
    rintro t _
    simp only [if_pos (show (0 : Int) < (c.length : Int) by omega)]
    refine Tot.ret ⟨?_, ?_, ?_, ?_, ?_⟩ <;> simp only [List.length_set] <;> omega
  simp only [if_neg h0]
  by_cases h0 : a = 4
  · simp only [if_pos h0]
    refine Tot.ret ⟨?_, ?_, ?_, ?_, ?_⟩ <;> simp only <;> omega
  simp only [if_neg h0]
  by_cases h0 : a = 5
  · simp only [if_pos h0]
    exact any_l0 hs _ _ _ _ _ _ P (by omega) rfl (by omega) (by omega) (by omega) (by omega) (by omega) hP'
  simp only [if_neg h0]
  refine Tot.ret ⟨?_, ?_, ?_, ?_, ?_⟩ <;> simp only <;> omega
theorem open_eq (l : List Int) (h : ∀ x ∈ l, (Lit.int .u8 x).wf = true) : ∃ s, spec_l1Open.f l = some (s, 0) ∧ Code s := by
  unfold spec_l1Open.f
  by_cases h0 : (l.length : Int) > 2000
  · rw [if_pos h0, if_pos (by omega)]
    exact ⟨_, rfl, code_of (fun x hx => h x (List.mem_of_mem_take hx)) (by rw [List.length_take]; omega)⟩
  · rw [if_neg h0]
    exact ⟨_, rfl, code_of h (by omega)⟩
/-! What is laid side by side -/
theorem texts_l0 (a : List ByteArray) (ha : a.length < 1000000000) (n : Nat) : ∀ i : Nat, a.length - i = n → Tot (· = true) (fun k => laws_jtTexts.l0 k a a i) := by
  induction n with
  | zero =>
    intro i hn
    apply Tot.succ
    simp only [laws_jtTexts.l0, if_neg (show ¬ (i : Int) < (a.length : Int) by omega)]
    exact Tot.ret rfl
  | succ n ih =>
    intro i hn
    apply Tot.succ
    simp only [laws_jtTexts.l0, if_pos (show (i : Int) < (a.length : Int) by omega), if_pos (show (0 : Int) ≤ (i : Int) by omega), if_true, wrap_succ i (by omega)]
    exact ih (i + 1) (by omega)
theorem waits_l0 (a : List S70) (ha : a.length < 1000000000) (n : Nat) : ∀ i : Nat, a.length - i = n → Tot (· = true) (fun k => laws_jtWaits.l0 k a a i) := by
  induction n with
  | zero =>
    intro i hn
    apply Tot.succ
    simp only [laws_jtWaits.l0, if_neg (show ¬ (i : Int) < (a.length : Int) by omega)]
    exact Tot.ret rfl
  | succ n ih =>
    intro i hn
    apply Tot.succ
    simp only [laws_jtWaits.l0, if_pos (show (i : Int) < (a.length : Int) by omega), if_pos (show (0 : Int) ≤ (i : Int) by omega), beq_self_eq_true, Bool.not_true, Bool.or_self, Bool.false_eq_true, if_false, wrap_succ i (by omega)]
    exact ih (i + 1) (by omega)
theorem jtDisk_same (c : List ByteArray) (w : List S70) (r l : Int) (hc : c.length < 1000000000) (hw : w.length < 1000000000) : Tot (· = true) (fun k => laws_jtDisk.f k c w r l c w r l) := by
  unfold laws_jtDisk.f laws_jtTexts.f laws_jtWaits.f
  simp only [if_true]
  refine Tot.bind (texts_l0 c hc _ 0 rfl) ?_
  rintro _ rfl
  simp only [if_true]
  refine Tot.bind (waits_l0 w hw _ 0 rfl) ?_
  rintro _ rfl
  simp only [if_true, beq_self_eq_true]
  exact Tot.ret rfl

theorem ok_facts {c : List ByteArray} {w : List S70} {r l : Int} (h : impl_DiskOk.ok c w r l = true) : c.length = 42 ∧ w.length ≤ 100 ∧ -1 ≤ r ∧ -1 ≤ l ∧ w.any impl_DiskOk.W.p = false ∧ c.any impl_DiskOk.C.p = false := by
  unfold impl_DiskOk.ok impl_DiskOk.C.any impl_DiskOk.W.any at h
  simp only [Bool.and_eq_true, decide_eq_true_eq, Bool.not_eq_true'] at h
  obtain ⟨h1, h2, h3, h4, h5, h6⟩ := h
  exact ⟨by omega, by omega, h5, h6, h4, h2⟩
theorem ok_of {c : List ByteArray} {w : List S70} {r l : Int} (h1 : c.length = 42) (h2 : w.length ≤ 100) (h3 : -1 ≤ r) (h4 : -1 ≤ l) (h5 : w.any impl_DiskOk.W.p = false) (h6 : c.any impl_DiskOk.C.p = false) : impl_DiskOk.ok c w r l = true := by
  unfold impl_DiskOk.ok impl_DiskOk.C.any impl_DiskOk.W.any
  simp only [Bool.and_eq_true, decide_eq_true_eq, Bool.not_eq_true']
  exact ⟨by omega, h6, by omega, h5, by omega, by omega⟩
theorem specSync_tot (c : List ByteArray) (w : List S70) (r l : Int) (hc : c.length < 100000000) (hw : w.length < 100000000) (hl : l < 9223372036854775808) : Tot (· = if impl_DiskOk.ok c w r l = true then syncD c w r l else ([], [], 0, 0)) (fun k => spec_DiskSync.f k c w r l) := by
  unfold spec_DiskSync.f
  refine Tot.bind (ok_tot c w r l (by omega) (by omega)) ?_
  rintro z rfl
  cases hk : impl_DiskOk.ok c w r l with
  | false => simp only [Bool.false_eq_true, if_false]; exact Tot.ret rfl
  | true =>
    obtain ⟨h1, h2, h3, h4, h5, h6⟩ := ok_facts hk
    simp only [if_true]
    refine Tot.bind (sync_tot c w r l h1 (by omega) h4 hl h5) ?_
    rintro d rfl
    exact Tot.ret rfl
theorem implSync_eq (c : List ByteArray) (w : List S70) (r l : Int) : impl_DiskSync.f c w r l = some (if impl_DiskOk.ok c w r l = true then syncD c w r l else ([], [], 0, 0)) := by
  unfold impl_DiskSync.f
  by_cases hk : impl_DiskOk.ok c w r l = true
  · rw [if_pos hk, if_pos hk]
  · rw [if_neg hk, if_neg hk]
theorem implWrite_eq (c : List ByteArray) (w : List S70) (r l at_ : Int) (t : ByteArray) : impl_DiskWrite.f c w r l at_ t = some (if impl_DiskOk.ok c w r l = true then writeD c w r l at_ t else ([], [], 0, 0, false)) := by
  unfold impl_DiskWrite.f
  by_cases hk : impl_DiskOk.ok c w r l = true
  · rw [if_pos hk, if_pos hk]
  · rw [if_neg hk, if_neg hk]
theorem syncD_len (c : List ByteArray) (w : List S70) (r l : Int) (n : Nat) (hc : c.length ≤ n) (hw : w.length ≤ n) : (if impl_DiskOk.ok c w r l = true then syncD c w r l else ([], [], 0, 0)).1.length ≤ n ∧ (if impl_DiskOk.ok c w r l = true then syncD c w r l else ([], [], 0, 0)).2.1.length ≤ n := by
  split
  · unfold syncD
    split
    · exact ⟨hc, hw⟩
    · exact ⟨by simp only [applyW_length]; exact hc, Nat.zero_le _⟩
  · exact ⟨Nat.zero_le _, Nat.zero_le _⟩
theorem writeD_len (c : List ByteArray) (w : List S70) (r l at_ : Int) (t : ByteArray) (n : Nat) (hc : c.length ≤ n) (hw : w.length < n) : (if impl_DiskOk.ok c w r l = true then writeD c w r l at_ t else ([], [], 0, 0, false)).1.length ≤ n ∧ (if impl_DiskOk.ok c w r l = true then writeD c w r l at_ t else ([], [], 0, 0, false)).2.1.length ≤ n := by
  split
  · unfold writeD
    split
    · exact ⟨hc, Nat.le_of_lt hw⟩
    · split
      · exact ⟨hc, by simp only [List.length_append, List.length_singleton]; omega⟩
      · exact ⟨hc, Nat.le_of_lt hw⟩
  · exact ⟨Nat.zero_le _, Nat.zero_le _⟩
theorem writeD_go {c : List ByteArray} {w : List S70} {at_ : Int} {t : ByteArray} : writeD c w (-1) (-1) at_ t = if writeOk w (-1) (-1) at_ t = true then (c, w ++ [⟨at_, t⟩], -1, -1, true) else (c, w, -1, -1, false) := by
  unfold writeD
  rw [if_neg (show ¬ ((-1 : Int) == 0) = true by decide), lessP_neg]
theorem writeOk_go (w : List S70) (at_ : Int) (t : ByteArray) : writeOk w (-1) (-1) at_ t = (!impl_DiskOk.W.p ⟨at_, t⟩ && !((w.length : Int) == 100)) := by
  unfold writeOk impl_DiskOk.W.p
  by_cases h1 : 0 ≤ at_ ∧ at_ ≤ 41
  · by_cases h2 : (t.size : Int) ≤ 1200
    · have h3 : ¬ (t.size : Int) > 1200 := by omega
      rw [decide_eq_true h1, decide_eq_true h1.1, decide_eq_true h1.2, decide_eq_true h2, decide_eq_false h3]; rfl
    · have h3 : (t.size : Int) > 1200 := by omega
      rw [decide_eq_true h1, decide_eq_true h1.1, decide_eq_true h1.2, decide_eq_false h2, decide_eq_true h3]; rfl
  · rw [decide_eq_false h1]
    by_cases h2 : 0 ≤ at_
    · have h3 : ¬ at_ ≤ 41 := fun h => h1 ⟨h2, h⟩
      rw [decide_eq_true h2, decide_eq_false h3]; rfl
    · rw [decide_eq_false h2]; rfl
theorem ok_snoc {c : List ByteArray} {w : List S70} {at_ : Int} {t : ByteArray} (h : impl_DiskOk.ok c w (-1) (-1) = true) (hw : writeOk w (-1) (-1) at_ t = true) : impl_DiskOk.ok c (w ++ [⟨at_, t⟩]) (-1) (-1) = true ∧ w.length < 100 ∧ impl_DiskOk.W.p ⟨at_, t⟩ = false := by
  obtain ⟨h1, h2, h3, h4, h5, h6⟩ := ok_facts h
  rw [writeOk_go, Bool.and_eq_true] at hw
  have h7 : impl_DiskOk.W.p ⟨at_, t⟩ = false := by simpa using hw.1
  have h8 : ¬ (w.length : Int) = 100 := by simpa using hw.2
  exact ⟨ok_of h1 (by rw [List.length_append, List.length_singleton]; omega) h3 h4 (any_append_false h5 h7) h6, by omega, h7⟩
/-! What is read -/
theorem readD_snoc (c : List ByteArray) (w : List S70) (x : S70) (i : Int) : readD c (w ++ [x]) i = if x.f0 = i then x.f1 else readD c w i := by
  unfold readD
  rw [List.reverse_append, List.reverse_singleton, List.singleton_append, List.find?_cons]
  by_cases h : x.f0 = i
  · simp [h]
  · have : (x.f0 == i) = false := by simpa using h
    rw [this, if_neg h]
theorem readD_apply_rev (c : List ByteArray) (i : Nat) (hi : i < c.length) : ∀ u : List S70, (∀ x ∈ u, 0 ≤ x.f0) → readD c u.reverse i = (applyW c u.reverse).getD i ByteArray.empty
  | [], _ => rfl
  | x :: u, h => by
    have ih := readD_apply_rev c i hi u (fun y hy => h y (List.mem_cons_of_mem _ hy))
    have hx := h x List.mem_cons_self
    rw [List.reverse_cons, readD_snoc]
    have e : applyW c (u.reverse ++ [x]) = (applyW c u.reverse).set x.f0.toNat x.f1 := by unfold applyW; rw [List.foldl_append]; rfl
    rw [e]
    by_cases h0 : x.f0 = i
    · rw [if_pos h0, h0, Int.toNat_natCast, List.getD_eq_getElem?_getD, List.getElem?_set_self (by rw [applyW_length]; exact hi)]; rfl
    · rw [if_neg h0, ih, List.getD_eq_getElem?_getD, List.getD_eq_getElem?_getD, List.getElem?_set_ne (by omega)]
theorem readD_apply (c : List ByteArray) (w : List S70) (i : Nat) (hi : i < c.length) (h : w.any impl_DiskOk.W.p = false) : readD c w i = (applyW c w).getD i ByteArray.empty := by
  have := readD_apply_rev c i hi w.reverse (fun x hx => by
    obtain ⟨j, hj, rfl⟩ := List.mem_iff_getElem.1 (List.mem_reverse.1 hx)
    have := (wait_at h j hj).1
    simpa [rd_T70, List.getD_eq_getElem?_getD, List.getElem?_eq_getElem hj] using this)
  simpa using this
theorem read_eq {c : List ByteArray} {w : List S70} {r l : Int} (h : impl_DiskOk.ok c w r l = true) (i : Nat) (hi : i < 42) : impl_DiskRead.f c w r l i = some (readD c w i) := by
  unfold impl_DiskRead.f
  rw [if_pos (by rw [h]; simp; omega)]
theorem lessP_ge {n : Int} (h : -1 ≤ n) (h' : n < 9223372036854775808) : -1 ≤ lessP n := by
  unfold lessP mx mn
  rw [w64 _ (by omega) (by omega)]
  (repeat' split) <;> omega
theorem mask_tot {s : List Int} (hs : Code s) {p : Int} (hp : 0 ≤ p) (hp' : p < 100000000) : Tot (fun r => r.2 = p + 4) (fun k => spec_l15Mask.f k s p) := by
  unfold spec_l15Mask.f
  refine Tot.bind (pick_tot hs hp (by omega) (by omega)) ?_
  rintro ⟨a, p1⟩ ⟨_, rfl⟩
  refine Tot.bind (pick_tot (p := p + 1) hs (by omega) (by omega) (by omega)) ?_
  rintro ⟨b, p2⟩ ⟨_, rfl⟩
  refine Tot.bind (pick_tot (p := p + 1 + 1) hs (by omega) (by omega) (by omega)) ?_
  rintro ⟨c, p3⟩ ⟨_, rfl⟩
  refine Tot.bind (one_tot (p := p + 1 + 1 + 1) hs (by omega) (by omega) (by simp)) ?_
  rintro ⟨d, p4⟩ ⟨_, rfl⟩
  exact Tot.ret (by simp only; omega)
theorem drawCrash_tot {code : List Int} (hb : ∀ x ∈ code, (Lit.int .u8 x).wf = true) : Tot (fun d => d.1.length ≤ 42 ∧ d.2.1.length ≤ 101 ∧ (-2 ≤ d.2.2.1 ∧ d.2.2.1 ≤ 3) ∧ (-2 ≤ d.2.2.2.1 ∧ d.2.2.2.1 ≤ 3)) (fun k => spec_DrawDiskCrash.f k code) := by
  unfold spec_DrawDiskCrash.f
  obtain ⟨s, e, hs⟩ := open_eq code hb
  rw [e]
  simp only [Option.bind_some]
  refine Tot.bind (anyDisk_tot hs (P := 300) (by omega) (by omega) (by omega)) ?_
  rintro ⟨c, w, r, l, p⟩ ⟨h1, h2, h3, h4, h5⟩
  simp only at h1 h2 h3 h4 h5 ⊢
  refine Tot.bind (mask_tot hs h5.1 (by omega)) ?_
  rintro ⟨a, p1⟩ e1
  simp only at e1; subst e1
  refine Tot.bind (mask_tot (p := p + 4) hs (by omega) (by omega)) ?_
  rintro ⟨b, p2⟩ e1
  simp only at e1; subst e1
  refine Tot.bind (mask_tot (p := p + 4 + 4) hs (by omega) (by omega)) ?_
  rintro ⟨d, p3⟩ e1
  simp only at e1; subst e1
  refine Tot.bind (one_tot (p := p + 4 + 4 + 4) hs (by omega) (by omega) (by simp)) ?_
  rintro ⟨m, p4⟩ ⟨_, e1⟩
  simp only at e1; subst e1
  refine Tot.bind (pick_tot (p := p + 4 + 4 + 4 + 1) hs (by omega) (by omega) (by omega)) ?_
  rintro ⟨x, p5⟩ ⟨_, e1⟩
  simp only at e1; subst e1
  refine Tot.bind (pick_tot (p := p + 4 + 4 + 4 + 1 + 1) hs (by omega) (by omega) (by omega)) ?_
  rintro ⟨y, p6⟩ ⟨_, e1⟩
  simp only at e1; subst e1
  refine Tot.bind (one_tot (p := p + 4 + 4 + 4 + 1 + 1 + 1) hs (by omega) (by omega) (by simp)) ?_
  rintro ⟨z, p7⟩ _
  exact Tot.ret ⟨h1, h2, h3, h4⟩
theorem drawSync_tot {code : List Int} (hb : ∀ x ∈ code, (Lit.int .u8 x).wf = true) : Tot (fun d => d.1.length ≤ 42 ∧ d.2.1.length ≤ 101 ∧ (-2 ≤ d.2.2.1 ∧ d.2.2.1 ≤ 3) ∧ (-2 ≤ d.2.2.2 ∧ d.2.2.2 ≤ 3)) (fun k => spec_DrawDiskSync.f k code) := by
  unfold spec_DrawDiskSync.f
  obtain ⟨s, e, hs⟩ := open_eq code hb
  rw [e]
  simp only [Option.bind_some]
  refine Tot.bind (anyDisk_tot hs (P := 300) (by omega) (by omega) (by omega)) ?_
  rintro ⟨c, w, r, l, p⟩ ⟨h1, h2, h3, h4, h5⟩
  exact Tot.ret ⟨h1, h2, h3, h4⟩
theorem crash_empty {c : List ByteArray} {r l m t b : Int} (hk : impl_DiskOk.ok c [] r l = true) (hm : 0 ≤ m) : Tot (· = (c, ([] : List S70), (-1 : Int), (-1 : Int))) (fun k => impl_DiskCrash.f k c [] r l m t b) := by
  unfold impl_DiskCrash.f impl_DiskOk.f
  have hc := (ok_facts hk).1
  simp only [hk, Option.bind_some, if_true, decide_eq_false (show ¬ m < 0 by omega)]
  apply Tot.succ
  simp only [impl_DiskCrash.j0, Bool.false_eq_true, if_false, impl_clone_string.f, if_pos (show c.length < 8796093022208 by omega), Option.bind_some]
  apply Tot.succ
  simp only [impl_DiskCrash.l0, List.length_nil, if_neg (show ¬ (0 : Int) < ((0 : Nat) : Int) by omega)]
  exact Tot.ret rfl

end Go.Proofs.Ytepihebkdnmppaa.Ak
