/- Walks of the store's functions, part 3: numbers read. -/
import Derived.Test.YtknciobaifdafaaGreatDoorQEZ
import Derived.Test.YtknciobaifdafaaGreatDoorQD
import Derived.Test.YtknciobaifdafaaGreatDoorQK
set_option linter.unusedVariables false
set_option maxRecDepth 100000
set_option linter.unusedSimpArgs false
set_option maxHeartbeats 4000000
namespace Go.Proofs.YtknciobaifdafaaGreatDoor.T
open Go Go.Pv Go.Proofs.YtknciobaifdafaaGreatDoor.EF
theorem Cb {s : ByteArray} {i : Nat} (hi : i = s.size) (h9 : i ≤ 9) (hd : (s.data.toList.take i).all jc = true) (h0 : s.size ≠ 0) (h : 1 < s.size → s.data.toList.getD 0 0 ≠ 48) : numL s.data.toList = valL (s.data.toList.take i) := by
  have hz : s.data.toList.length = s.size := rfl
  have e : s.data.toList.take i = s.data.toList := List.take_of_length_le (by omega)
  rw [e] at hd ⊢
  unfold numL
  rw [if_pos ⟨hd, by omega, by intro e; rw [e] at hz; exact h0 hz.symm, by rw [hz]; exact h⟩]
theorem zF (s : ByteArray) (hs : s.size ≤ 9223372036854775807) : Ok Tryz.prog 158 [vS s] (vI (numL s.data.toList)) [] := by
  have hz : s.data.toList.length = s.size := rfl
  refine stO Tryz.func158 [.tmp 2] 47 rfl rfl rfl ?_
  repeat' first | refine sS ?_ | refine sO (fun K' hK' => ?_) | (refine sE hK' ?_; clear hK') | refine yM ?_ | fail
  refine W.loop (fun i : Nat => ⟨[vS s, .any, .any, vI (valL (s.data.toList.take i)), vI i, .any, .any, .any, .any, .any, .any, .any, .any, .any, .any, .any, .any, .any, .any, .any, .any, .any, .any, .any, .any, .any, .any, .any, .any, .any, .any, .any, .any, .any, .any, .any, .any, .any, .any, .any, .any, .any, .any, .any, .any, .any, .any], bM⟩) (fun i => i ≤ s.size ∧ i ≤ 9 ∧ (s.data.toList.take i).all jc = true) (fun i => s.size - i) 0 ?wk0 ⟨Nat.zero_le _, by omega, by simp⟩ (fun i hi => ?_)
  case wk0 => exact Weak.flat rfl (by simp [All2, vw, vwA, vwC, ax, vS, valL])
  obtain ⟨hi, h9, hd⟩ := hi
  have hv := Jh _ hd
  have h10 : 10 ^ (s.data.toList.take i).length ≤ 10 ^ 9 := Nat.pow_le_pow_right (by omega) (by simp; omega)
  repeat' first | refine sS ?_ | refine sO (fun K' hK' => ?_) | refine sY ?_ | (refine sI (fun hg => ?_) (fun hg K' hK' => ?_) <;> try exact sZ hg) | (refine sE hK' ?_; clear hK') | (refine sD (fun hc => ?_) (fun hc => ?_) <;> try exact sZ hc) | refine sU ?_ ?_ | exact sX | refine yM ?_ | fail
  · exact Out.flat' (by rw [Fj (i := i) (by omega) (by unfold jc; rw [decide_eq_false_iff_not]; omega)])
  · exact Out.flat' (by rw [Fj (i := i) (by omega) (by unfold jc; rw [decide_eq_false_iff_not]; omega)])
  · exact Out.flat' (by rw [JX (by omega)])
  · have hdi : jc (s.data.toList.getD i 0) = true := by unfold jc; simp only [decide_eq_true_eq]; omega
    obtain ⟨h1, h2⟩ := Be (by omega) hd hdi
    refine Rnd.normal (i + 1) ⟨by omega, by omega, h1⟩ (by omega) ?_
    have e1 : (((s.data.toList.getD i 0).toNat : Int) - 48) = (((s.data.toList.getD i 0).toNat - 48 : Nat) : Int) := by omega
    rw [af (x := (i : Int) + 1) (by omega) (by omega), e1, H8 (by omega), af (x := (valL _ : Int) * 10) (by omega) (by omega), af (x := (((s.data.toList.getD i 0).toNat - 48 : Nat) : Int)) (by omega) (by omega), af (by omega) (by omega),
      show (valL (s.data.toList.take i) : Int) * 10 + (((s.data.toList.getD i 0).toNat - 48 : Nat) : Int) = (valL (s.data.toList.take (i + 1)) : Int) by rw [h2]; omega]
    exact kp []
  · exact Out.flat' (by unfold numL; rw [if_neg]; rintro ⟨-, -, h, -⟩; exact h (List.eq_nil_of_length_eq_zero (by omega)))
  · exact Out.flat' (by rw [Cb (by omega) h9 hd (by omega) (by omega)])
  · refine Out.flat' ?_
    unfold numL
    rw [if_neg]
    rintro ⟨-, -, -, h⟩
    refine h (by omega) (UInt8.toNat_inj.1 ?_)
    show _ = 48
    omega
  · exact Out.flat' (by rw [Cb (by omega) h9 hd (by omega) (fun _ e => by rw [e] at hc; exact hc rfl)])
end Go.Proofs.YtknciobaifdafaaGreatDoor.T
set_option linter.unusedVariables false
set_option maxRecDepth 100000
set_option linter.unusedSimpArgs false
set_option maxHeartbeats 4000000
namespace Go.Proofs.YtknciobaifdafaaGreatDoor.T
open Go Go.Pv Go.Proofs.YtknciobaifdafaaGreatDoor.EF
structure CutS where
  out : List ByteArray
  from_ : Nat
  i : Nat
def cutI (s : ByteArray) (b : UInt8) (most : Nat) (x : CutS) : Prop :=
  x.from_ ≤ x.i ∧ x.i ≤ s.size ∧ x.out.length ≤ most ∧ x.out.length ≤ x.i ∧
  x.out ++ (jW b (most - x.out.length) ((s.data.toList.drop x.from_).take (x.i - x.from_)) (s.data.toList.drop x.i)).map ofL = cutL s b most
theorem FX {s : ByteArray} {a b : Nat} (h : a ≤ b) (hb : b ≤ s.size) : ofL ((s.data.toList.drop a).take (b - a)) = s.extract a b := by
  apply ByteArray.ext
  rw [ByteArray.data_extract]
  apply Array.ext'
  rw [Array.toList_extract]
  simp [ofL, List.extract_eq_take_drop]
theorem MI {s : ByteArray} {a : Nat} (h : a ≤ s.size) : ofL (s.data.toList.drop a) = s.extract a s.size := by
  rw [← FX h (Nat.le_refl _), List.take_of_length_le]
  have hz : s.data.toList.length = s.size := rfl
  simp
theorem Ku {b : UInt8} {k : Nat} {cur l : List UInt8} (h : k = 0 ∨ l = []) : jW b k cur l = [cur ++ l] := by
  cases l with
  | nil => simp [jW]
  | cons c l =>
    rcases h with rfl | h
    · rfl
    · cases h
theorem FY {s : ByteArray} {b : UInt8} {most : Nat} {x : CutS} (h : cutI s b most x) (he : s.size ≤ x.i ∨ most ≤ x.out.length) : x.out ++ [s.extract x.from_ s.size] = cutL s b most ∧ True := by
  obtain ⟨hf, hi, ho, ho2, hq⟩ := h
  have hz : s.data.toList.length = s.size := rfl
  rw [Ku] at hq
  · rw [← hq, ← MI (by omega)]
    refine ⟨?_, trivial⟩
    simp only [List.map_cons, List.map_nil]
    congr 3
    conv => lhs; rw [← List.take_append_drop (x.i - x.from_) (s.data.toList.drop x.from_), List.drop_drop]
    rw [show x.from_ + (x.i - x.from_) = x.i by omega]
  · rcases he with h | h
    · exact .inr (List.drop_eq_nil_of_le (by omega))
    · exact .inl (by omega)
theorem Cc {l : List UInt8} {i : Nat} (h : i < l.length) : l.drop i = l.getD i 0 :: l.drop (i + 1) := by
  rw [List.drop_eq_getElem_cons h, List.getD_eq_getElem?_getD, List.getElem?_eq_getElem h]
  rfl
theorem MJ {s : ByteArray} {b : UInt8} {most : Nat} {x : CutS} (h : cutI s b most x) (hi : x.i < s.size) (ho : x.out.length < most) (hc : s.data.toList.getD x.i 0 = b) : cutI s b most ⟨x.out ++ [s.extract x.from_ x.i], x.i + 1, x.i + 1⟩ ∧ True := by
  obtain ⟨hf, hi', ho', ho2, hq⟩ := h
  have hz : s.data.toList.length = s.size := rfl
  refine ⟨⟨Nat.le_refl _, hi, by simp; omega, by simp; omega, ?_⟩, trivial⟩
  rw [← hq, Cc (l := s.data.toList) (i := x.i) (by omega), hc]
  obtain ⟨k, hk⟩ : ∃ k, most - x.out.length = k + 1 := ⟨most - x.out.length - 1, by omega⟩
  rw [hk]
  simp only [jW, if_true, List.map_cons, List.length_append, List.length_cons, List.length_nil, Nat.sub_self, List.take_zero]
  rw [FX hf hi', show most - (x.out.length + (0 + 1)) = k by omega, List.append_assoc]
  rfl
theorem Kv {s : ByteArray} {b : UInt8} {most : Nat} {x : CutS} (h : cutI s b most x) (hi : x.i < s.size) (ho : x.out.length < most) (hc : s.data.toList.getD x.i 0 ≠ b) : cutI s b most ⟨x.out, x.from_, x.i + 1⟩ := by
  obtain ⟨hf, hi', ho', ho2, hq⟩ := h
  have hz : s.data.toList.length = s.size := rfl
  refine ⟨by simp; omega, hi, ho', by simp; omega, ?_⟩
  rw [← hq, Cc (l := s.data.toList) (i := x.i) (by omega)]
  obtain ⟨k, hk⟩ : ∃ k, most - x.out.length = k + 1 := ⟨most - x.out.length - 1, by omega⟩
  rw [hk]
  simp only [jW, if_neg hc]
  have e : (s.data.toList.drop x.from_).take (x.i + 1 - x.from_) = (s.data.toList.drop x.from_).take (x.i - x.from_) ++ [s.data.toList.getD x.i 0] := by
    rw [show x.i + 1 - x.from_ = (x.i - x.from_) + 1 by omega, List.take_add_one, List.getElem?_drop, show x.from_ + (x.i - x.from_) = x.i by omega, List.getElem?_eq_getElem (by omega), List.getD_eq_getElem?_getD, List.getElem?_eq_getElem (by omega)]
    rfl
  rw [e]
theorem vV (s : ByteArray) (b : UInt8) (most : Nat) (hs : s.size ≤ 1000000) (hm : most ≤ 1000) : Ok Tryz.prog 159 [vS s, .b (.int .u8 b.toNat), vI most] (.val (cutL s b most).length ((cutL s b most).map vS)) [] := by
  have hz : s.data.toList.length = s.size := rfl
  refine stO Tryz.func159 [.tmp 6] 43 rfl rfl rfl ?_
  repeat' first | refine sS ?_ | refine sO (fun K' hK' => ?_) | (refine sE hK' ?_; clear hK') | refine sU ?_ ?_ | exact sX | refine yM ?_ | fail
  refine W.loop (fun x : CutS => ⟨[vS s, .b (.int .u8 b.toNat), vI most, .any, .any, .any, .any, .ref 0 0 x.out.length, vI x.from_, vI x.i, .any, .any, .any, .any, .any, .any, .any, .any, .any, .any, .any, .any, .any, .any, .any, .any, .any, .any, .any, .any, .any, .any, .any, .any, .any, .any, .any, .any, .any, .any, .any, .any, .any], aZ [(0, 9, x.out.map vS)]⟩) (cutI s b most) (fun x => s.size - x.i) ⟨[], 0, 0⟩ ?wk0 ⟨by simp, by simp, by simp, by simp, by simp [cutL]⟩ (fun x hx => ?_)
  case wk0 => exact kp [⟨32768, 0, 9, []⟩]
  obtain ⟨hf, hi, ho, ho2, hq⟩ := hx
  repeat' first | refine sS ?_ | refine sO (fun K' hK' => ?_) | refine sY ?_ | (refine sI (fun hg => ?_) (fun hg K' hK' => ?_) <;> try exact sZ hg) | (refine sE hK' ?_; clear hK') | (refine sD (fun hc => ?_) (fun hc => ?_) <;> try exact sZ hc) | refine sU ?_ ?_ | exact sX | refine yM ?_ | fail
  · obtain ⟨h1, h2⟩ := FY ⟨hf, hi, ho, ho2, hq⟩ (.inl (by omega))
    exact Out.val (by simp only [upd]; rfl) (by rw [← List.map_singleton (f := vS), ← List.map_append]; exact bn) (by rw [← h1]; simp) (by rw [← h1]; simp)
  · obtain ⟨h1, h2⟩ := MJ ⟨hf, hi, ho, ho2, hq⟩ (by omega) (by omega) (UInt8.toNat_inj.1 (by omega))
    refine Rnd.normal ⟨x.out ++ [s.extract x.from_ x.i], x.i + 1, x.i + 1⟩ h1 (by simp; omega) ?_
    rw [af (x := (x.i : Int) + 1) (by omega) (by omega)]
    exact kp [⟨131168, 0, 9, ((x.out ++ [s.extract x.from_ x.i]).map vS)⟩]
  · have h1 := Kv ⟨hf, hi, ho, ho2, hq⟩ (by omega) (by omega) (fun e => hc (by rw [e]))
    refine Rnd.normal ⟨x.out, x.from_, x.i + 1⟩ h1 (by simp; omega) ?_
    rw [af (x := (x.i : Int) + 1) (by omega) (by omega)]
    exact kp [⟨0, 0, 9, (x.out.map vS)⟩]
  · obtain ⟨h1, h2⟩ := FY ⟨hf, hi, ho, ho2, hq⟩ (.inr (by omega))
    exact Out.val (by simp only [upd]; rfl) (by rw [← List.map_singleton (f := vS), ← List.map_append]; exact bn) (by rw [← h1]; simp) (by rw [← h1]; simp)
end Go.Proofs.YtknciobaifdafaaGreatDoor.T
set_option linter.unusedVariables false
set_option maxRecDepth 100000
set_option linter.unusedSimpArgs false
namespace Go.Proofs.YtknciobaifdafaaGreatDoor.T
open Go Go.RowKit Go.Sort Go.Pv Go.Proofs.YtknciobaifdafaaGreatDoor.EF
theorem pq : Tryz.prog.globalNamed "internal/bytealg.MaxLen" = some 0 := by kernel_rfl
theorem Ce : Tryz.prog.globalNamed "internal/strconv.uint64pow10" = some 3 := by kernel_rfl
theorem Cf : Tryz.prog.globalNamed "strconv.ErrSyntax" = some 1 := by kernel_rfl
theorem Ci : Tryz.prog.globalNamed "strconv.ErrRange" = some 2 := by kernel_rfl
theorem zG (w : World) (n : Nat) : Below w.heap.size w (w.drewN n) := ⟨rfl, rfl, rfl, Nat.le_refl _, fun k _ => rfl⟩
theorem below_grow (w : World) (os : Array Obj) : Below w.heap.size w (grow w os) :=
  ⟨rfl, rfl, rfl, by simp [grow], fun k h => by simp [grow, Array.getElem?_append_left h]⟩
theorem FZ (w : World) (e : TypeId) (s : ByteArray) : Below w.heap.size w (Lib.bytesWorld w e s) :=
  ⟨rfl, rfl, rfl, by rw [Lib.bytesWorld_size]; omega, fun i hi => Lib.bytesWorld_at_old w e s i (by omega)⟩
theorem Jo (n : Int) (h0 : -9223372036854775808 ≤ n) (h1 : n ≤ 9223372036854775807) : Ok Tryz.prog 143 [vI n] (vS (aI n)) [] :=
  Ok.below (us := [.int .i64 n]) fun w hg => (Tryz.strconv_Itoa n h0 h1 w (hg.pow _ Ce)).mono fun e w' ⟨he, k, os, hw⟩ =>
    ⟨_, he, by subst hw; exact (zG w k).trans (below_grow (w.drewN k) os), fun _ _ => .b _⟩
theorem MK (s sep : ByteArray) (hs : s.size < 4294967281) : Ok Tryz.prog 115 [vS s, vS sep] (.b (.tuple #[.string (cutB s sep).1, .string (cutB s sep).2.1, .bool (cutB s sep).2.2])) [] :=
  Ok.below (us := [.string s, .string sep]) fun w hg => by
    obtain ⟨m, hm⟩ := hg.maxLen _ pq
    exact (Tryz.strings_Cut s sep m w hs hm).mono fun e w' ⟨he, n, hw⟩ => ⟨_, he, hw ▸ zG w n, fun _ _ => .b _⟩
theorem OI (s p : ByteArray) : Ok Tryz.prog 116 [vS s, vS p] (vS (trimB s p)) [] :=
  Ok.below (us := [.string s, .string p]) fun w hg => (Tryz.strings_TrimPrefix s p w).mono fun e w' ⟨he, hw⟩ => ⟨_, he, hw ▸ Below.refl _ _, fun _ _ => .b _⟩
theorem split_ok (s sep : ByteArray) (hs : s.size < 4294967281) (h1 : 1 ≤ sep.size) : Ok Tryz.prog 119 [vS s, vS sep] (.ref 0 0 (jA s sep).length) [(9, (jA s sep).map vS)] := by
  have hle := Lib.countB_le sep h1 s.size s (Nat.le_refl _)
  have hlen : (jA s sep).length = Lib.countB s sep + 1 := Lib.splitB_all sep h1 0 _ s rfl
  refine Ok.made (us := [.string s, .string sep]) (by rw [hlen]; unfold maxLen; omega) fun w hg => ?_
  obtain ⟨m, hm⟩ := hg.maxLen _ pq
  refine (Tryz.strings_Split s sep m w hs hm h1).mono fun e w' ⟨he, hw⟩ => ⟨_, _, by rw [hlen]; exact he, by omega, by unfold maxLen; omega, ?_, ?_, hw, fun j x hj φ D => ?_⟩
  · have : (jA s sep).length = Lib.countB s sep + 1 := hlen
    unfold jA at this
    rw [kE ti9]
    simp [this]
  · unfold jA; simp
  · unfold jA at hj
    simp at hj
    obtain ⟨y, hy, rfl⟩ := hj
    simp [hy]
    exact .b _
theorem OJ {mem : Mem} {i n : Nat} {l : List ByteArray} {sep : ByteArray} (hi : mem i = .row 9 (l.map vS)) (hn : n = l.length) (hn0 : 0 < n) (hN : l.length ≤ 140737488355328) (hlen : (Lib.join (l.map (·.data.toList)) sep.data.toList).length ≤ 140737488355328) :
    aK Tryz.prog 144 [.ref i 0 n, vS sep] mem fun y m => y = vS (BM l sep) ∧ m = mem :=
  aK.strs hi hn hn0 fun w bk c hg hc hb hcap => Tryz.strings_Join bk 0 c l sep w hc hb hN hcap hlen
theorem Cj (s : ByteArray) (hs : s.size ≤ 9223372036854775806) (v : Int) (h : Lib.atoiAll s.data.toList = .ok v) : Ok Tryz.prog 117 [vS s] (.tup [vI v, .b .nilIface]) [] :=
  Ok.below (us := [.string s]) fun w hg => (Tryz.strconv_Atoi_ok s hs v h w).mono fun e w' ⟨he, hw⟩ =>
    ⟨_, he, by rcases hw with rfl | ⟨t, rfl⟩ <;> first | exact Below.refl _ _ | exact FZ _ _ _, fun φ D => .tup rfl fun j x hj => by
      rcases j with _ | _ | j <;> simp at hj
      · subst hj; exact .b _
      · subst hj; exact .b _⟩
theorem F5 (s : ByteArray) (hs : s.size ≤ 281474976710656) (h : ∀ v, Lib.atoiAll s.data.toList ≠ .ok v) : Ok Tryz.prog 117 [vS s] (.tup [vI (badI s), .err]) [] := by
  have go : ∀ (z : Int) (w : World), (Calls Tryz.prog 117 #[.string s] w fun e w' => ∃ N t p, e = .returned (.tuple #[.int .i64 z, .iface t p]) ∧ w.heap.size ≤ N ∧ Below w.heap.size w w') →
      Calls Tryz.prog 117 #[.string s] w fun e w' => ∃ v, e = .returned v ∧ Below w.heap.size w w' ∧ ∀ (φ : Phi) (D : Nat → Prop), RV Tryz.prog φ D w' (.tup [vI z, .err]) v := fun z w hc =>
    hc.mono fun e w' ⟨N, t, p, he, _, hb⟩ => ⟨_, he, hb, fun φ D => .tup rfl fun j x hj => by
      rcases j with _ | _ | j <;> simp at hj
      · subst hj; exact .b _
      · subst hj; exact .err _ _⟩
  unfold badI
  cases ha : Lib.atoiAll s.data.toList
  case ok v => exact absurd ha (h v)
  case range =>
    refine Ok.below (us := [.string s]) fun w hg => ?_
    obtain ⟨tp, p, hv⟩ := hg.rng _ Ci
    exact go _ w ((Tryz.strconv_Atoi_range_var s hs ha tp p w hv).mono fun e w' ⟨N, he, h1, _, h2⟩ => ⟨N, _, _, he, h1, h2⟩)
  refine Ok.below (us := [.string s]) fun w hg => ?_
  obtain ⟨tp, p, hv⟩ := hg.syn _ Cf
  exact go _ w ((Tryz.strconv_Atoi_syntax_var s hs ha tp p w hv).mono fun e w' ⟨N, he, h1, _, h2⟩ => ⟨N, _, _, he, h1, h2⟩)
end Go.Proofs.YtknciobaifdafaaGreatDoor.T
set_option linter.unusedVariables false
set_option maxRecDepth 100000
set_option linter.unusedSimpArgs false
set_option maxHeartbeats 4000000
namespace Go.Proofs.YtknciobaifdafaaGreatDoor.T
open Go Go.Pv Go.Proofs.YtknciobaifdafaaGreatDoor.EF
theorem pz (n a b : Int) : Ok Tryz.prog 93 [vI n, vI a, vI b] (vB (decide (a ≤ n ∧ n ≤ b))) [] := by
  refine stO Tryz.func93 [.tmp 6] 15 rfl rfl rfl ?_
  repeat' first | refine sS ?_ | refine sO (fun K' hK' => ?_) | refine sY ?_ | (refine sI (fun hg => ?_) (fun hg K' hK' => ?_) <;> try exact sZ hg) | (refine sE hK' ?_; clear hK') | refine yM ?_ | fail
  · exact Out.flat' (by simp; intro h; omega)
  · exact Out.flat' (by simp [hg])
theorem Cm (n a b : Int) : Ok Tryz.prog 68 [vI n, vI a, vI b] (vB (decide (a ≤ n ∧ n ≤ b))) [] := by
  refine stO Tryz.func68 [.tmp 6] 15 rfl rfl rfl ?_
  repeat' first | refine sS ?_ | refine sO (fun K' hK' => ?_) | refine sY ?_ | (refine sI (fun hg => ?_) (fun hg K' hK' => ?_) <;> try exact sZ hg) | (refine sE hK' ?_; clear hK') | refine yM ?_ | fail
  · exact Out.flat' (by simp; intro h; omega)
  · exact Out.flat' (by simp [hg])
theorem xx (n : Int) : Ok Tryz.prog 86 [vI n] (vB (decide (0 ≤ n ∧ n ≤ 41))) [] := by
  refine stO Tryz.func86 [.tmp 2] 5 rfl rfl rfl ?_
  repeat' first | refine sS ?_ | ((with_reducible show aC ..); refine cF rfl rfl rfl rfl (Cm _ _ _) ?_) | refine sO (fun K' hK' => ?_) | (refine sE hK' ?_; clear hK') | refine yM ?_ | fail
  exact Out.flat' rfl
theorem uy (a b : Int) : Ok Tryz.prog 123 [vI a, vI b] (vI (max a b)) [] := by
  refine stO Tryz.func123 [.tmp 4] 10 rfl rfl rfl ?_
  repeat' first | refine sS ?_ | refine sO (fun K' hK' => ?_) | (refine sE hK' ?_; clear hK') | (refine sD (fun hc => ?_) (fun hc => ?_) <;> try exact sZ hc) | refine yM ?_ | fail
  · exact Out.flat' (by congr 1; omega)
  · exact Out.flat' (by congr 1; omega)
theorem yI (n : Int) (h : n ≤ 9223372036854775807) : Ok Tryz.prog 161 [vI n] (vI (au n)) [] := by
  refine stO Tryz.func161 [.tmp 2] 8 rfl rfl rfl ?_
  repeat' first | refine sS ?_ | refine sO (fun K' hK' => ?_) | (refine sE hK' ?_; clear hK') | (refine sD (fun hc => ?_) (fun hc => ?_) <;> try exact sZ hc) | refine yM ?_ | fail
  · exact Out.flat' (by rw [af (by omega) (by omega), au, if_pos hc])
  · exact Out.flat' (by rw [au, if_neg (by omega)])
theorem lD (n : Int) (h : 0 ≤ n ∧ n ≤ 1000000000) : Ok Tryz.prog 126 [vI n] (vI (2 + n)) [] := by
  refine stO Tryz.func126 [.tmp 2] 5 rfl rfl rfl ?_
  repeat' first | refine sS ?_ | refine sO (fun K' hK' => ?_) | (refine sE hK' ?_; clear hK') | refine yM ?_ | fail
  exact Out.flat' (by rw [af (by omega) (by omega)])
theorem mJ (n : Int) (h : 0 ≤ n ∧ n ≤ 1000000000) : Ok Tryz.prog 140 [vI n] (vI (22 + n)) [] := by
  refine stO Tryz.func140 [.tmp 2] 5 rfl rfl rfl ?_
  repeat' first | refine sS ?_ | refine sO (fun K' hK' => ?_) | (refine sE hK' ?_; clear hK') | refine yM ?_ | fail
  exact Out.flat' (by rw [af (by omega) (by omega)])
theorem OL (b : Bool) : Ok Tryz.prog 164 [vB b] (vS (gJ b)) [] := by
  refine stO Tryz.func164 [.tmp 2] 4 rfl rfl rfl ?_
  repeat' first | refine sS ?_ | refine sO (fun K' hK' => ?_) | (refine sE hK' ?_; clear hK') | (refine sD (fun hc => ?_) (fun hc => ?_) <;> try exact sZ hc) | refine yM ?_ | fail
  · exact Out.flat' (by subst hc; rfl)
  · exact Out.flat' (by subst hc; rfl)
theorem Qi (s : ByteArray) : Ok Tryz.prog 79 [vS s] (vB (decide (1100 < s.size))) [] := by
  refine stO Tryz.func79 [.tmp 2] 6 rfl rfl rfl ?_
  repeat' first | refine sS ?_ | refine sO (fun K' hK' => ?_) | (refine sE hK' ?_; clear hK') | refine yM ?_ | fail
  exact Out.flat' (by congr 1; simp; omega)
theorem OM (s : ByteArray) : Ok Tryz.prog 109 [vS s] (vB (decide (1200 < s.size))) [] := by
  refine stO Tryz.func109 [.tmp 2] 6 rfl rfl rfl ?_
  repeat' first | refine sS ?_ | refine sO (fun K' hK' => ?_) | (refine sE hK' ?_; clear hK') | refine yM ?_ | fail
  exact Out.flat' (by congr 1; simp; omega)
theorem xy (x : Wt) : Ok Tryz.prog 122 [vWt x] (vB (wtOk x)) [] := by
  refine stO Tryz.func122 [.tmp 2] 12 rfl rfl rfl ?_
  repeat' first | refine sS ?_ | ((with_reducible show aC ..); refine cF rfl rfl rfl rfl (pz _ _ _) ?_) | refine sO (fun K' hK' => ?_) | refine sY ?_ | (refine sI (fun hg => ?_) (fun hg K' hK' => ?_) <;> try exact sZ hg) | (refine sE hK' ?_; clear hK') | refine yM ?_ | fail
  all_goals exact Out.flat' (by simp_all [wtOk]; omega)
theorem Il (x : Wt) : Ok Tryz.prog 111 [vWt x] (vB (!wtOk x)) [] := by
  refine stO Tryz.func111 [.tmp 2] 13 rfl rfl rfl ?_
  repeat' first | refine sS ?_ | ((with_reducible show aC ..); refine cF rfl rfl rfl rfl (xx _) ?_) | refine sO (fun K' hK' => ?_) | refine sY ?_ | (refine sI (fun hg => ?_) (fun hg K' hK' => ?_) <;> try exact sZ hg) | (refine sE hK' ?_; clear hK') | refine yM ?_ | fail
  · exact Out.flat' (by simp_all [wtOk]; omega)
  · exact Out.flat' (by simp_all [wtOk]; rw [Bool.eq_iff_iff]; simp; omega)
end Go.Proofs.YtknciobaifdafaaGreatDoor.T
set_option linter.unusedVariables false
set_option maxRecDepth 100000
set_option linter.unusedSimpArgs false
set_option maxHeartbeats 4000000
namespace Go.Proofs.YtknciobaifdafaaGreatDoor.T
open Go Go.Pv Go.Proofs.YtknciobaifdafaaGreatDoor.EF
theorem CB (n : Nat) (h : (n : Int) ≤ 9223372036854775807) : Ok Tryz.prog 162 [vI n] (vS (aI n)) [] := by
  revert h
  refine Nat.strongRecOn n fun n ih h => ?_
  have ihd : 10 ≤ n → Ok Tryz.prog 162 [vI (IntKind.i64.wrap ((n : Int).tdiv 10))] (vS (aI (n / 10 : Nat))) [] := fun hn => by
    rw [show (10 : Int) = ((10 : Nat) : Int) from rfl, JZ h]
    exact ih _ (by omega) (by omega)
  have hs := bT (n / 10 : Nat) (by omega) (by have : n / 10 ≤ n := Nat.div_le_self ..; omega)
  refine stO Tryz.func162 [.tmp 2] 28 rfl rfl rfl ?_
  repeat' first | refine sS ?_ | ((with_reducible show uC ..); refine uF rfl rfl rfl rfl (ihd (by omega)) ?_) | refine sO (fun K' hK' => ?_) | ((with_reducible show aB _ _ _ _ _ ({ dst := some 26, op := _, type := _, pos := _, after := _, guard := _ } :: _) _ _ _); (with_reducible refine EX _ 7 (List.mem_cons_self ..) ?_ ?_ ?_ ?_ ?_ ?_ ?_ (fun K' hK' => ?_)); (constructor <;> (dsimp only; omega)); kernel_rfl; (simp only [addU, upd, if_true]); decide; rfl; rfl; rfl) | refine yA (fun K' hA' => ?_) | ((with_reducible show W _ _ (.region 7 _ _) _ _); refine sV 11 ?_) | (refine sE hK' ?_; clear hK') | (refine sE hA' ?_; clear hA') | (refine sD (fun hc => ?_) (fun hc => ?_) <;> try exact sZ hc) | refine sU ?_ ?_ | exact sX | refine yM ?_ | fail
  · refine Out.flat' ?_
    rw [af (by omega) (by omega), show (48 : Int) + (n : Int) = ((48 + n : Nat) : Int) by omega, H8 (by omega), ← Fq (by omega)]
  · refine Out.flat' ?_
    have e : (n : Int).tmod 10 = ((n % 10 : Nat) : Int) := by rw [Int.tmod_eq_emod_of_nonneg (by omega)]; simp
    rw [e, af (by omega) (by omega), show (48 : Int) + ((n % 10 : Nat) : Int) = ((48 + n % 10 : Nat) : Int) by omega, H8 (by omega), ← H9 (by omega)]
theorem F6 (n : Int) (h0 : -9223372036854775807 ≤ n) (h1 : n ≤ 9223372036854775807) : Ok Tryz.prog 162 [vI n] (vS (aI n)) [] := by
  by_cases hn : 0 ≤ n
  · have := CB n.toNat (by omega)
    rwa [Int.toNat_of_nonneg hn] at this
  have hm : Ok Tryz.prog 162 [vI (IntKind.i64.wrap (0 - n))] (vS (aI (-n))) [] := by
    rw [af (by omega) (by omega), Int.zero_sub]
    have := CB (-n).toNat (by omega)
    rwa [Int.toNat_of_nonneg (by omega)] at this
  have hs := bT (-n) (by omega) (by omega)
  refine stO Tryz.func162 [.tmp 2] 28 rfl rfl rfl ?_
  repeat' first | refine sS ?_ | ((with_reducible show aC ..); refine cF rfl rfl rfl rfl hm ?_) | refine sO (fun K' hK' => ?_) | (refine sE hK' ?_; clear hK') | (refine sD (fun hc => ?_) (fun hc => ?_) <;> try exact sZ hc) | refine sU ?_ ?_ | exact sX | refine yM ?_ | fail
  exact Out.flat' (congrArg _ (JY (by omega)).symm)
end Go.Proofs.YtknciobaifdafaaGreatDoor.T
