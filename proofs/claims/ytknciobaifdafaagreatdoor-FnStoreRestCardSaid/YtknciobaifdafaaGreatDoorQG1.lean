/- The draws of the store, walked, part 1: the reader of bytes. -/
import Derived.Test.YtknciobaifdafaaGreatDoorQEZ
import Derived.Test.YtknciobaifdafaaGreatDoorQD
import Derived.Test.YtknciobaifdafaaGreatDoorQQ
import Derived.Test.YtknciobaifdafaaGreatDoorQD1
set_option linter.unusedVariables false
set_option maxRecDepth 100000
set_option maxHeartbeats 4000000
set_option linter.unusedSimpArgs false
namespace Go.Pv
abbrev vU8 (n : Int) : PV := .b (.int .u8 n)
theorem jl {P : Program} {n : Nat} {b : List Int} : Cln P (.val n (b.map vU8)) = True := eq_true (Cln.val fun x hx => by
  obtain ⟨y, _, rfl⟩ := List.mem_map.1 hx
  exact Cln.b _)
theorem iq {P : Program} {l : List Int} : Flat P (l.map vI) := fun x hx => by
  obtain ⟨y, _, rfl⟩ := List.mem_map.1 hx
  exact dE
abbrev cRd (b : List Int) (p : Nat) : List PV := [.val b.length (b.map vU8), vI p]
def qG (b : List Int) (p : Nat) : Int := b.getD (p % b.length) 0 * 131 + b.getD ((p * 7 + 3) % b.length) 0 * 1117 + p * 29 + ((p / b.length : Nat) : Int) * 53
def ae (b : List Int) (p : Nat) (n : Int) : Int :=
  if n < 1 ∨ b.length = 0 then 0 else if p < b.length then (b.getD p 0).tmod n else (xorI .i64 (qG b p) ((qG b p).tdiv 64)).tmod n
structure RdOk (b : List Int) (p : Nat) : Prop where
  byte : ∀ k, 0 ≤ b.getD k 0 ∧ b.getD k 0 ≤ 255
  len : b.length ≤ 1000000
  most : p ≤ 1000000
theorem GK {b : List Int} {p : Nat} (h : RdOk b p) : 0 ≤ qG b p ∧ qG b p ≤ 1000000000 := by
  have h1 := h.byte (p % b.length)
  have h2 := h.byte ((p * 7 + 3) % b.length)
  have h3 := h.most
  have h4 : p / b.length ≤ p := Nat.div_le_self ..
  unfold qG
  generalize p / b.length = q at h4 ⊢
  generalize b.getD (p % b.length) 0 = u at h1 ⊢
  generalize b.getD ((p * 7 + 3) % b.length) 0 = v at h2 ⊢
  omega
theorem O4 {a b : Int} (ha : 0 ≤ a ∧ a ≤ 1000000000) (hb : 0 ≤ b ∧ b ≤ 1000000000) : 0 ≤ xorI .i64 a b := by
  unfold xorI
  have e : ((BitVec.ofInt IntKind.i64.bits a ^^^ BitVec.ofInt IntKind.i64.bits b).toNat) < 2 ^ 63 := by
    show ((BitVec.ofInt 64 a ^^^ BitVec.ofInt 64 b).toNat) < 2 ^ 63
    rw [BitVec.toNat_xor]
    refine Nat.xor_lt_two_pow ?_ ?_
    · rw [BitVec.toNat_ofInt]; omega
    · rw [BitVec.toNat_ofInt]; omega
  rw [af (by omega) (by omega)]
  omega
theorem az {b : List Int} {p : Nat} {n : Int} (h : RdOk b p) (hn : 1 ≤ n) : 0 ≤ ae b p n ∧ ae b p n < n := by
  have key : ∀ x : Int, 0 ≤ x → 0 ≤ x.tmod n ∧ x.tmod n < n := fun x hx => ⟨Int.tmod_nonneg _ hx, Int.tmod_lt_of_pos _ (by omega)⟩
  unfold ae
  split
  · omega
  · split
    · exact key _ (h.byte p).1
    · have hx := GK h
      exact key _ (O4 hx ⟨Int.tdiv_nonneg hx.1 (by decide), by have := Int.tdiv_le_self (b := 64) hx.1; omega⟩)
end Go.Pv
namespace Go.Proofs.YtknciobaifdafaaGreatDoor.T
open Go Go.Pv Go.Proofs.YtknciobaifdafaaGreatDoor.EF
theorem GM (a b : Nat) : (a : Int).tmod b = ((a % b : Nat) : Int) := by rw [Int.tmod_eq_emod_of_nonneg (by omega)]; omega
theorem Nl (a b : Nat) : (a : Int).tdiv b = ((a / b : Nat) : Int) := by rw [Int.tdiv_eq_ediv_of_nonneg (by omega)]; omega
theorem Np {b : List Int} {k : Nat} (h : k < b.length) : b[k] = b.getD k 0 := by simp [h]
theorem QR (b : List Int) (p : Nat) (n : Int) (h : RdOk b p) : OkS Tryz.prog 66 [.ptr 0 0, vI n] [(123, cRd b p)] (fun i => i = 0) (vI (ae b p n)) [(123, cRd b (p + 1))] := by
  have hlen := h.len
  have hmost := h.most
  have hw1 : IntKind.i64.wrap ((p : Int) + 1) = ((p + 1 : Nat) : Int) := by rw [af (by omega) (by omega)]; omega
  have hw2 : IntKind.i64.wrap (((p + 1 : Nat) : Int) - 1) = (p : Int) := by rw [af (by omega) (by omega)]; omega
  by_cases h0 : n < 1 ∨ b.length = 0
  · have e : ae b p n = 0 := if_pos h0
    rw [e]
    refine stS Tryz.func66 [.tmp 4] 99 rfl rfl rfl ?_
    repeat' first | refine sS ?_ | refine sO (fun K' hK' => ?_) | refine sY ?_ | (refine sI (fun hg => ?_) (fun hg K' hK' => ?_) <;> try exact sZ hg) | (refine sE hK' ?_; clear hK') | (refine sD (fun hc => ?_) (fun hc => ?_) <;> try exact sZ hc) | ((with_reducible first | refine En.ret ?_ | refine En.normal ?_); simp only [go_sem]) | (simp only [go_sem, Nat.reduceAdd, Nat.reduceLT, Nat.reduceLeDiff, hw1]; (all_goals fail_if_success show False)) | fail
    all_goals exact kp [⟨0, 0, 123, (cRd b (p + 1))⟩]
  · rw [not_or] at h0
    by_cases h1 : p < b.length
    · have hb := h.byte p
      have e : ae b p n = (b.getD p 0).tmod n := by unfold ae; rw [if_neg (not_or.2 h0), if_pos h1]
      have hwb : IntKind.i64.wrap (b[p]) = b.getD p 0 := by rw [Np h1]; exact af (by omega) (by omega)
      rw [e]
      refine stS Tryz.func66 [.tmp 4] 99 rfl rfl rfl ?_
      repeat' first | refine sS ?_ | (with_reducible refine vJ ?_ ?_) | refine sO (fun K' hK' => ?_) | (refine sI (fun hg => ?_) (fun hg K' hK' => ?_) <;> try exact sZ hg) | (refine sE hK' ?_; clear hK') | (refine sD (fun hc => ?_) (fun hc => ?_) <;> try exact sZ hc) | refine sU ?_ ?_ | exact sX | ((with_reducible first | refine En.ret ?_ | refine En.normal ?_); simp only [go_sem]) | (simp only [go_sem, Nat.reduceAdd, Nat.reduceLT, Nat.reduceLeDiff, hw1, hw2, hwb]; (all_goals fail_if_success show False)) | fail
      all_goals exact kp [⟨0, 0, 123, (cRd b (p + 1))⟩]
    · have hl0 : 0 < b.length := by omega
      have hm1 : p % b.length < b.length := Nat.mod_lt _ hl0
      have hm2 : (p * 7 + 3) % b.length < b.length := Nat.mod_lt _ hl0
      have hb1 := h.byte (p % b.length)
      have hb2 := h.byte ((p * 7 + 3) % b.length)
      have hX := GK h
      have hd : p / b.length ≤ p := Nat.div_le_self ..
      have e : ae b p n = (xorI .i64 (qG b p) ((qG b p).tdiv 64)).tmod n := by unfold ae; rw [if_neg (not_or.2 h0), if_neg h1]
      rw [e]
      have q1 : (p : Int).tmod (b.length : Int) = ((p % b.length : Nat) : Int) := GM ..
      have q2 : IntKind.i64.wrap ((p : Int) * 7) = ((p * 7 : Nat) : Int) := by rw [af (by omega) (by omega)]; omega
      have q3 : IntKind.i64.wrap (((p * 7 : Nat) : Int) + 3) = ((p * 7 + 3 : Nat) : Int) := by rw [af (by omega) (by omega)]; omega
      have q4 : ((p * 7 + 3 : Nat) : Int).tmod (b.length : Int) = (((p * 7 + 3) % b.length : Nat) : Int) := GM ..
      have q5 : IntKind.i64.wrap ((p : Int).tdiv (b.length : Int)) = ((p / b.length : Nat) : Int) := by
        rw [Nl]
        generalize p / b.length = q at hd ⊢
        exact af (by omega) (by omega)
      have q6 : IntKind.i64.wrap (b[p % b.length]) = b.getD (p % b.length) 0 := by rw [Np hm1]; exact af (by omega) (by omega)
      have q7 : IntKind.i64.wrap (b[(p * 7 + 3) % b.length]) = b.getD ((p * 7 + 3) % b.length) 0 := by rw [Np hm2]; exact af (by omega) (by omega)
      have w1 : IntKind.i64.wrap (b.getD (p % b.length) 0 * 131) = b.getD (p % b.length) 0 * 131 := af (by omega) (by omega)
      have w2 : IntKind.i64.wrap (b.getD ((p * 7 + 3) % b.length) 0 * 1117) = b.getD ((p * 7 + 3) % b.length) 0 * 1117 := af (by omega) (by omega)
      have w3 : IntKind.i64.wrap (b.getD (p % b.length) 0 * 131 + b.getD ((p * 7 + 3) % b.length) 0 * 1117) = b.getD (p % b.length) 0 * 131 + b.getD ((p * 7 + 3) % b.length) 0 * 1117 := af (by omega) (by omega)
      have w4 : IntKind.i64.wrap ((p : Int) * 29) = (p : Int) * 29 := af (by omega) (by omega)
      have w5 : IntKind.i64.wrap (b.getD (p % b.length) 0 * 131 + b.getD ((p * 7 + 3) % b.length) 0 * 1117 + (p : Int) * 29) = b.getD (p % b.length) 0 * 131 + b.getD ((p * 7 + 3) % b.length) 0 * 1117 + (p : Int) * 29 := af (by omega) (by omega)
      have w6 : IntKind.i64.wrap (((p / b.length : Nat) : Int) * 53) = ((p / b.length : Nat) : Int) * 53 := by
        generalize p / b.length = q at hd ⊢
        exact af (by omega) (by omega)
      have w7 : IntKind.i64.wrap (b.getD (p % b.length) 0 * 131 + b.getD ((p * 7 + 3) % b.length) 0 * 1117 + (p : Int) * 29 + ((p / b.length : Nat) : Int) * 53) = b.getD (p % b.length) 0 * 131 + b.getD ((p * 7 + 3) % b.length) 0 * 1117 + (p : Int) * 29 + ((p / b.length : Nat) : Int) * 53 := by
        unfold qG at hX
        exact af (by have := hX.1; generalize (p / b.length) = q at *; omega) (by have := hX.2; generalize (p / b.length) = q at *; omega)
      have w8 : IntKind.i64.wrap ((qG b p).tdiv 64) = (qG b p).tdiv 64 := af (by have := Int.tdiv_nonneg hX.1 (by decide : (0 : Int) ≤ 64); omega) (by have := Int.tdiv_le_self (b := 64) hX.1; omega)
      unfold qG at w8 ⊢
      refine stS Tryz.func66 [.tmp 4] 99 rfl rfl rfl ?_
      repeat' first | refine sS ?_ | (with_reducible refine vJ ?_ ?_) | refine sO (fun K' hK' => ?_) | (refine sI (fun hg => ?_) (fun hg K' hK' => ?_) <;> try exact sZ hg) | refine yA (fun K' hA' => ?_) | ((with_reducible show W _ _ (.region 7 _ _) _ _); refine sV 46 ?_) | (refine sE hK' ?_; clear hK') | (refine sE hA' ?_; clear hA') | (refine sD (fun hc => ?_) (fun hc => ?_) <;> try exact sZ hc) | refine sU ?_ ?_ | exact sX | ((with_reducible first | refine En.ret ?_ | refine En.normal ?_); simp only [go_sem]) | (simp only [go_sem, Nat.reduceAdd, Nat.reduceLT, Nat.reduceLeDiff, hw1, hw2, q1, q2, q3, q4, q5, q6, q7, w1, w2, w3, w4, w5, w6, w7, w8]; (all_goals fail_if_success show False)) | fail
      all_goals exact kp [⟨0, 0, 123, (cRd b (p + 1))⟩]
theorem rd_h (b : List Int) (p n : Nat) : ∀ z ∈ cRd b p, HOk Tryz.prog z ∧ inC n z := fun z hz => by
  simp only [List.mem_cons, List.not_mem_nil, or_false] at hz
  rcases hz with rfl | rfl
  · exact ⟨.inr (.inr (Cln.val fun x hx => by obtain ⟨y, _, rfl⟩ := List.mem_map.1 hx; exact Cln.b _)), trivial⟩
  · exact ⟨HOk.b _, trivial⟩
theorem Qp (l : List Int) (n : Nat) : ∀ z ∈ l.map vI, HOk Tryz.prog z ∧ inC n z := fun z hz => by
  obtain ⟨y, _, rfl⟩ := List.mem_map.1 hz
  exact ⟨HOk.b _, trivial⟩
theorem rQ (l : List ByteArray) (n : Nat) : ∀ z ∈ l.map vS, HOk Tryz.prog z ∧ inC n z := fun z hz => by
  obtain ⟨y, _, rfl⟩ := List.mem_map.1 hz
  exact ⟨HOk.b _, trivial⟩
theorem Aj {mem : Mem} {j : Nat} (b : List Int) (p : Nat) (n : Int) (h : RdOk b p) (hj : mem j = .row 123 (cRd b p)) :
    aK Tryz.prog 66 [.ptr j 0, vI n] mem fun y m => y = vI (ae b p n) ∧ m = upd mem j (.row 123 (cRd b (p + 1))) :=
  aK.frame1 (news := []) 0 (QR b p n h) rfl hj rfl rfl (fun e he => by cases he) (fun i hi => absurd hi (Nat.not_lt_zero _))
    (fun x hx => by
      simp only [List.mem_cons, List.not_mem_nil, or_false] at hx
      rcases hx with rfl | rfl
      · exact ⟨.inr (.inl ⟨_, _, rfl⟩), (by decide : (0 : Nat) < 1)⟩
      · exact ⟨HOk.b _, trivial⟩) (rd_h b p 1) (show HOk Tryz.prog _ from HOk.b _) (fun z hz => (rd_h b (p + 1) 1 z hz).1) (fun e he => by cases he)
theorem oneS (b : List Int) (p : Nat) (l : List Int) (h : RdOk b p) (hl : 0 < l.length) (hl2 : l.length ≤ 1000) : OkS Tryz.prog 70 [.ptr 0 0, .ref 1 0 l.length] [(123, cRd b p), (3, l.map vI)] (fun i => i = 0 ∨ i = 1) (vI (l.getD (ae b p l.length).toNat 0)) [(123, cRd b (p + 1)), (3, l.map vI)] := by
  have hin := az h (n := (l.length : Int)) (by omega)
  obtain ⟨k, hk⟩ : ∃ k : Nat, ae b p l.length = k := ⟨(ae b p l.length).toNat, by omega⟩
  have hkl : k < l.length := by omega
  have hr : ∀ {mem : Mem}, mem 0 = .row 123 (cRd b p) → _ := fun {mem} hj => Aj (mem := mem) (j := 0) b p l.length h hj
  rw [hk] at hr ⊢
  have e : l[k] = l.getD k 0 := by simp [hkl]
  refine stS Tryz.func70 [.tmp 4] 12 rfl rfl rfl ?_
  repeat' first | refine sS ?_ | (with_reducible refine vJ ?_ ?_) | ((with_reducible show aC ..); refine cM rfl rfl rfl rfl (hr (by simp only [upd]; rfl)) ?_) | refine sO (fun K' hK' => ?_) | (refine sE hK' ?_; clear hK') | refine sU ?_ ?_ | exact sX | ((with_reducible first | refine En.ret ?_ | refine En.normal ?_); simp only [go_sem, e]) | (simp only [go_sem, Nat.reduceEqDiff, e]; (all_goals fail_if_success show False)) | fail
  exact kp [⟨0, 0, 123, (cRd b (p + 1))⟩, ⟨1, 1, 3, (l.map vI)⟩]
theorem ofS (b : List Int) (p : Nat) (l : List ByteArray) (h : RdOk b p) (hl : 0 < l.length) (hl2 : l.length ≤ 1000) : OkS Tryz.prog 108 [.ptr 0 0, .ref 1 0 l.length] [(123, cRd b p), (9, l.map vS)] (fun i => i = 0 ∨ i = 1) (vS (l.getD (ae b p l.length).toNat ByteArray.empty)) [(123, cRd b (p + 1)), (9, l.map vS)] := by
  have hin := az h (n := (l.length : Int)) (by omega)
  obtain ⟨k, hk⟩ : ∃ k : Nat, ae b p l.length = k := ⟨(ae b p l.length).toNat, by omega⟩
  have hkl : k < l.length := by omega
  have hr : ∀ {mem : Mem}, mem 0 = .row 123 (cRd b p) → _ := fun {mem} hj => Aj (mem := mem) (j := 0) b p l.length h hj
  rw [hk] at hr ⊢
  have e : l[k] = l.getD k ByteArray.empty := by simp [hkl]
  refine stS Tryz.func108 [.tmp 4] 12 rfl rfl rfl ?_
  repeat' first | refine sS ?_ | refine sN ?_ ?_ | ((with_reducible show aC ..); refine cM rfl rfl rfl rfl (hr (by simp only [upd]; rfl)) ?_) | refine sO (fun K' hK' => ?_) | (refine sE hK' ?_; clear hK') | refine sU ?_ ?_ | exact sX | ((with_reducible first | refine En.ret ?_ | refine En.normal ?_); simp only [go_sem]) | (simp only [go_sem, Nat.reduceEqDiff]; (all_goals fail_if_success show False)) | fail
  exact kp [⟨0, 0, 123, (cRd b (p + 1))⟩, ⟨1, 1, 9, (l.map vS)⟩]
theorem Jw {mem : Mem} {j k : Nat} (b : List Int) (p : Nat) (l : List Int) (h : RdOk b p) (hl : 0 < l.length) (hl2 : l.length ≤ 1000) (hj : mem j = .row 123 (cRd b p)) (hk : mem k = .row 3 (l.map vI)) :
    aK Tryz.prog 70 [.ptr j 0, .ref k 0 l.length] mem fun y m => y = vI (l.getD (ae b p l.length).toNat 0) ∧ m = upd mem j (.row 123 (cRd b (p + 1))) :=
  aK.frame2 (oneS b p l h hl hl2) (.inl rfl) (.inr rfl) hj hk (fun e => by rw [e, hk] at hj; cases hj) rfl rfl (by rw [List.map_map]; rfl)
    (fun x hx => by
      simp only [List.mem_cons, List.not_mem_nil, or_false] at hx
      rcases hx with rfl | rfl
      · exact ⟨.inr (.inl ⟨_, _, rfl⟩), (by decide : (0 : Nat) < 2)⟩
      · exact ⟨.inl ⟨_, _, _, rfl⟩, (by decide : (1 : Nat) < 2)⟩) (rd_h b p 2) (Qp l 2) (show HOk Tryz.prog _ from HOk.b _) (fun z hz => (rd_h b (p + 1) 1 z hz).1)
theorem of_run {mem : Mem} {j k : Nat} (b : List Int) (p : Nat) (l : List ByteArray) (h : RdOk b p) (hl : 0 < l.length) (hl2 : l.length ≤ 1000) (hj : mem j = .row 123 (cRd b p)) (hk : mem k = .row 9 (l.map vS)) :
    aK Tryz.prog 108 [.ptr j 0, .ref k 0 l.length] mem fun y m => y = vS (l.getD (ae b p l.length).toNat ByteArray.empty) ∧ m = upd mem j (.row 123 (cRd b (p + 1))) :=
  aK.frame2 (ofS b p l h hl hl2) (.inl rfl) (.inr rfl) hj hk (fun e => by rw [e, hk] at hj; cases hj) rfl rfl (by rw [List.map_map]; rfl)
    (fun x hx => by
      simp only [List.mem_cons, List.not_mem_nil, or_false] at hx
      rcases hx with rfl | rfl
      · exact ⟨.inr (.inl ⟨_, _, rfl⟩), (by decide : (0 : Nat) < 2)⟩
      · exact ⟨.inl ⟨_, _, _, rfl⟩, (by decide : (1 : Nat) < 2)⟩) (rd_h b p 2) (rQ l 2) (show HOk Tryz.prog _ from HOk.b _) (fun z hz => (rd_h b (p + 1) 1 z hz).1)
end Go.Proofs.YtknciobaifdafaaGreatDoor.T
set_option linter.unusedVariables false
set_option maxRecDepth 100000
set_option maxHeartbeats 4000000
set_option linter.unusedSimpArgs false
namespace Go.Pv
def txB : List ByteArray := [⟨#[]⟩, ⟨#[97]⟩, ⟨#[98, 98]⟩, ⟨#[112, 97, 103, 101]⟩, ⟨#[58, 49, 46, 49, 59]⟩, ⟨#[72, 50, 46, 50, 59]⟩, ⟨#[49, 32, 49, 32, 48, 32, 48, 32, 33, 32, 49, 58, 120, 58, 49, 46, 49, 59]⟩,
  ⟨#[108, 111, 110, 103, 32, 116, 101, 120, 116, 32, 116, 104, 97, 116, 32, 105, 115, 32, 108, 111, 110, 103, 101, 114, 32, 116, 104, 97, 110, 32, 111, 116, 104, 101, 114, 115]⟩, ⟨#[48, 49, 50, 51, 52, 53, 54, 55, 56, 57]⟩, ⟨#[97, 98, 99, 100, 101, 102, 103, 104, 105, 106]⟩]
def jJ (b : List Int) (p : Nat) : ByteArray := txB.getD (ae b p 10).toNat ByteArray.empty
def wK (b : List Int) (p : Nat) : List Int := [0, 1, 2, 3, 4, 5, 6, 7, 8, 1099511627776, 1152921504606846975, ae b p 256, ae b (p + 1) 256 * 256 + ae b (p + 2) 256]
def kD (b : List Int) (p : Nat) : Int := (wK b p).getD (ae b (p + 3) 13).toNat 0
theorem Qq : ∀ t ∈ txB, t.data.toList ∈ txL ∧ t.size ≤ 40 := by decide
theorem getD_mem {α : Type} {l : List α} {k : Nat} {d : α} (h : k < l.length) : l.getD k d ∈ l := by
  rw [List.getD_eq_getElem?_getD, List.getElem?_eq_getElem h]
  exact List.getElem_mem h
theorem oM {b : List Int} {p : Nat} (h : RdOk b p) : (jJ b p).data.toList ∈ txL ∧ (jJ b p).size ≤ 40 := by
  have := az h (n := 10) (by omega)
  exact Qq _ (getD_mem (by show (ae b p 10).toNat < 10; omega))
theorem jm {P : Program} {n : Nat} {b : List Int} : Cln P (.val n (b.map vU8)) ∧ ((∃ v, PV.val n (b.map vU8) = .b v) ∨ ∃ n' ys, PV.val n (b.map vU8) = .val n' ys) := ⟨Cln.val fun x hx => by
  obtain ⟨y, _, rfl⟩ := List.mem_map.1 hx
  exact Cln.b _, .inr ⟨_, _, rfl⟩⟩
theorem RdOk.up {b : List Int} {p q : Nat} (h : RdOk b p) (hq : q ≤ 1000000) : RdOk b q := ⟨h.byte, h.len, hq⟩
theorem wL {b : List Int} {p : Nat} (h : RdOk b p) (hp : p + 3 ≤ 1000000) : 0 ≤ kD b p ∧ kD b p ≤ 1152921504606846975 := by
  have h1 := az h (n := 256) (by omega)
  have h2 := az (h.up (q := p + 1) (by omega)) (n := 256) (by omega)
  have h3 := az (h.up (q := p + 2) (by omega)) (n := 256) (by omega)
  have h4 := az (h.up (q := p + 3) (by omega)) (n := 13) (by omega)
  have hm : kD b p ∈ wK b p := getD_mem (by show (ae b (p + 3) 13).toNat < 13; omega)
  generalize kD b p = m at hm ⊢
  simp only [wK, List.mem_cons, List.not_mem_nil, or_false] at hm
  rcases hm with rfl | rfl | rfl | rfl | rfl | rfl | rfl | rfl | rfl | rfl | rfl | rfl | rfl <;> omega
end Go.Pv
namespace Go.Proofs.YtknciobaifdafaaGreatDoor.T
open Go Go.Pv Go.Proofs.YtknciobaifdafaaGreatDoor.EF
theorem gB {mem : Mem} {j : Nat} (b : List Int) (n : Int) {p : Nat} (hj : mem j = .row 123 (cRd b p)) (h : RdOk b p) : aK Tryz.prog 66 [.ptr j 0, vI n] mem fun y m => y = vI (ae b p n) ∧ m = upd mem j (.row 123 (cRd b (p + 1))) := Aj b p n h hj
theorem oneR {mem : Mem} {j k : Nat} (b : List Int) (l : List Int) {p : Nat} (hj : mem j = .row 123 (cRd b p)) (hk : mem k = .row 3 (l.map vI)) (h : RdOk b p) (hl : 0 < l.length) (hl2 : l.length ≤ 1000) : aK Tryz.prog 70 [.ptr j 0, .ref k 0 l.length] mem fun y m => y = vI (l.getD (ae b p l.length).toNat 0) ∧ m = upd mem j (.row 123 (cRd b (p + 1))) := Jw b p l h hl hl2 hj hk
theorem ofR {mem : Mem} {j k : Nat} (b : List Int) (l : List ByteArray) {p : Nat} (hj : mem j = .row 123 (cRd b p)) (hk : mem k = .row 9 (l.map vS)) (h : RdOk b p) (hl : 0 < l.length) (hl2 : l.length ≤ 1000) : aK Tryz.prog 108 [.ptr j 0, .ref k 0 l.length] mem fun y m => y = vS (l.getD (ae b p l.length).toNat ByteArray.empty) ∧ m = upd mem j (.row 123 (cRd b (p + 1))) := of_run b p l h hl hl2 hj hk
theorem jd {j n : Nat} (h : j < n) : AOk Tryz.prog (.ptr j 0) ∧ inA n (.ptr j 0) := ⟨.inr (.inl ⟨_, _, rfl⟩), h⟩
theorem textS (b : List Int) (p : Nat) (h : RdOk b p) : OkS Tryz.prog 107 [.ptr 0 0] [(123, cRd b p)] (fun i => i = 0) (vS (jJ b p)) [(123, cRd b (p + 1))] := by
  have ho : ∀ {mem : Mem} {k : Nat}, mem 0 = .row 123 (cRd b p) → mem k = .row 9 (txB.map vS) → _ := fun {mem k} hj hk => of_run (mem := mem) (j := 0) (k := k) b p txB h (by decide) (by decide) hj hk
  refine stS Tryz.func107 [.tmp 2] 6 rfl rfl rfl ?_
  repeat' first | refine sS ?_ | ((with_reducible show aC ..); refine cM rfl rfl rfl rfl (ho (by simp only [upd]; rfl) (by simp only [upd]; rfl)) ?_) | refine sO (fun K' hK' => ?_) | (refine sE hK' ?_; clear hK') | refine sU ?_ ?_ | exact sX | ((with_reducible first | refine En.ret ?_ | refine En.normal ?_); simp only [go_sem]) | (simp only [go_sem, Nat.reduceAdd, Nat.reduceMul, Nat.reduceEqDiff, Nat.reduceLeDiff]; (all_goals fail_if_success show False)) | fail
  rw [show txB.getD (ae b p (txB.length : Nat)).toNat ByteArray.empty = jJ b p from rfl]
  exact kp [⟨0, 0, 123, (cRd b (p + 1))⟩]
theorem QS (b : List Int) (p : Nat) (h : RdOk b p) (hp : p + 4 ≤ 1000000) : OkS Tryz.prog 89 [.ptr 0 0] [(123, cRd b p)] (fun i => i = 0) (vI (kD b p)) [(123, cRd b (p + 4))] := by
  have h1 := az (h.up (q := p + 1) (by omega)) (n := 256) (by omega)
  have h2 := az (h.up (q := p + 2) (by omega)) (n := 256) (by omega)
  have w1 : IntKind.i64.wrap (ae b (p + 1) 256 * 256) = ae b (p + 1) 256 * 256 := af (by omega) (by omega)
  have w2 : IntKind.i64.wrap (ae b (p + 1) 256 * 256 + ae b (p + 2) 256) = ae b (p + 1) 256 * 256 + ae b (p + 2) 256 := af (by omega) (by omega)
  have ho : ∀ {mem : Mem} {k : Nat}, mem 0 = .row 123 (cRd b (p + 3)) → mem k = .row 3 ((wK b p).map vI) → _ := fun {mem k} hj hk => Jw (mem := mem) (j := 0) (k := k) b (p + 3) (wK b p) (h.up (by omega)) (by simp [wK]) (by simp [wK]) hj hk
  refine stS Tryz.func89 [.tmp 2] 14 rfl rfl rfl ?_
  repeat' first | refine sS ?_ | ((with_reducible show aC ..); first | refine cM rfl rfl rfl rfl (ho (by simp only [upd]; rfl) (by simp only [upd]; rfl)) ?_ | refine cM rfl rfl rfl rfl (gB b _ (by simp only [upd]; rfl) (h.up (by omega))) ?_) | refine sO (fun K' hK' => ?_) | (refine sE hK' ?_; clear hK') | refine sU ?_ ?_ | exact sX | ((with_reducible first | refine En.ret ?_ | refine En.normal ?_); simp only [go_sem]) | (simp only [go_sem, Nat.reduceAdd, Nat.reduceMul, Nat.reduceEqDiff, Nat.reduceLeDiff, w1, w2]; (all_goals fail_if_success show False)) | fail
  rw [show (wK b p).getD (ae b (p + 3) ((wK b p).length : Nat)).toNat 0 = kD b p from rfl]
  exact kp [⟨0, 0, 123, (cRd b (p + 4))⟩]
theorem Jy {mem : Mem} {j : Nat} (b : List Int) {p : Nat} (hj : mem j = .row 123 (cRd b p)) (h : RdOk b p) : aK Tryz.prog 107 [.ptr j 0] mem fun y m => y = vS (jJ b p) ∧ m = upd mem j (.row 123 (cRd b (p + 1))) :=
  aK.frame1 (news := []) 0 (textS b p h) rfl hj rfl rfl (fun e he => by cases he) (fun i hi => absurd hi (Nat.not_lt_zero _)) (fun x hx => by rw [List.mem_singleton.1 hx]; exact jd (by decide)) (rd_h b p 1) (show HOk Tryz.prog _ from HOk.b _) (fun z hz => (rd_h b (p + 1) 1 z hz).1) (fun e he => by cases he)
theorem Jz {mem : Mem} {j : Nat} (b : List Int) {p : Nat} (hj : mem j = .row 123 (cRd b p)) (h : RdOk b p) (hp : p + 4 ≤ 1000000) : aK Tryz.prog 89 [.ptr j 0] mem fun y m => y = vI (kD b p) ∧ m = upd mem j (.row 123 (cRd b (p + 4))) :=
  aK.frame1 (news := []) 0 (QS b p h hp) rfl hj rfl rfl (fun e he => by cases he) (fun i hi => absurd hi (Nat.not_lt_zero _)) (fun x hx => by rw [List.mem_singleton.1 hx]; exact jd (by decide)) (rd_h b p 1) (show HOk Tryz.prog _ from HOk.b _) (fun z hz => (rd_h b (p + 4) 1 z hz).1) (fun e he => by cases he)
end Go.Proofs.YtknciobaifdafaaGreatDoor.T
