/- Walks of values, part 21: a number as a text (a range over a function that writes to a builder; in the kit's own words). -/
import Derived.Test.YtneapbfomhalpaaGreatDoorQVT
import Derived.OwnWalkIn
import Derived.RangeFuncBound
import Derived.RangeFuncBox
import Derived.RangeFuncCalls
import Derived.RangeFuncLeaves
import Derived.RangeFuncNested
import Derived.Shelf.Abstract
import Derived.Shelf.RegionOpen
import Derived.TacticsInMore
import Derived.LoopIn
import Derived.LoopNIn
import Derived.Shelf.Strings.BuilderK
set_option linter.unusedVariables false
set_option linter.unusedSimpArgs false
set_option maxRecDepth 100000
set_option maxHeartbeats 4000000
namespace Go.Proofs.YtneapbfomhalpaaGreatDoor.T
open Go Go.Pv Go.Proofs.YtneapbfomhalpaaGreatDoor.EF
section
open Go.Shelf Go.RowKit
attribute [local go_sem] Oper.semAt_some Instr.makeFunc Op.unary
/-- What a round keeps. -/
def KpB (n₀ Bs : Nat) (A B : World) : Prop := Below n₀ A B ∧ (A.heap[Bs]? = none ∨ B.heap[Bs]? = A.heap[Bs]?)
theorem KpB.t {n₀ Bs : Nat} {A B C : World} (h : KpB n₀ Bs A B) (k : KpB n₀ Bs B C) : KpB n₀ Bs A C := ⟨h.1.trans k.1, by
  rcases h.2 with h2 | h2
  · exact .inl h2
  · rcases k.2 with k2 | k2
    · exact .inl (h2.symm.trans k2)
    · exact .inr (k2.trans h2)⟩
abbrev Fig := { x : Nat × Int // 0 ≤ x.2 ∧ x.2 ≤ 9999 }
def upF {α : Type} (f : Nat → α) (k : Nat) : List α := (List.range k).map f
theorem upF_succ {α : Type} (f : Nat → α) (k : Nat) : upF f (k + 1) = upF f k ++ [f k] := by simp [upF, List.range_succ]
theorem upF_length {α : Type} (f : Nat → α) (k : Nat) : (upF f k).length = k := by simp [upF]
/-- A walk backward over numbers. -/
theorem back1 (F : Fence) (n : Nat) (h1 : F.fn 116) (hro : F.round = none) (hn : 1 ≤ n) (l Bs n₀ len cap : Nat) (A : Addr) (f : Nat → Fig) (hlen : len ≤ 1000000) (hb : A.block < n₀) (J Jx : List Fig → World → Prop)
    (hY : ∀ pre x W, J pre W → pre.length < len → YieldAt F (n - 1) Tryz.prog l #[.int .i64 (x.1.1 : Int), .int .i64 x.1.2] W fun e W' =>
      (e = .returned (.bool true) ∧ J (pre ++ [x]) W' ∧ KpB n₀ Bs W W') ∨ (e = .returned (.bool false) ∧ Jx (pre ++ [x]) W'))
    (W : World) (hBs : Boxed W Bs 102 (.slice (some A) len cap)) (hf : ∀ k, k < len → (f k).1.1 = len - 1 - k) (hc : ∀ k, k < len → W.cell? (A.add (len - 1 - k)) = some (.int .i64 (f k).1.2)) (h0 : J [] W) :
    CallsIn F n Tryz.prog 116 #[.func (.yield l) #[] #[], .pointer (some ⟨Bs, 0, none⟩)] W fun e W' => (∃ v, e = .returned v) ∧
      ((∃ ys, ys = upF f len ∧ J ys W') ∨ (∃ pre, (∃ k, k ≤ len ∧ pre = upF f k) ∧ Jx pre W')) := by
  refine callsIn_of_wp Tryz.func116 rfl h1 ?_ hro
  simp only [show Tryz.f116.ntmps = 19 from rfl, List.size_toArray, List.length_cons, List.length_nil, Nat.reduceAdd, Nat.reduceSub, Array.replicate_succ, Array.replicate_zero, List.push_toArray, List.append_toArray, List.nil_append, List.cons_append]
  have hBc := hBs.cell
  gi_wp2
  gi_loopw [3] (fun i wr => ∃ k : Nat, k ≤ len ∧ i = .int .i64 ((len : Int) - 1 - k) ∧ J (upF f k) wr ∧ KpB n₀ Bs W wr)
    (fun i _ => (intOf i + 1).toNat)
  case atStart => exact ⟨0, Nat.zero_le _, by simp [], h0, Below.refl _ _, .inr rfl⟩
  case round =>
    obtain ⟨k, hk, rfl, hJs, hnx⟩ := hrel
    by_cases hlt : k < len
    · have hcx : wr.cell? (A.add (len - 1 - k)) = some (.int .i64 (f k).1.2) := (hnx.1.cell (p := A.add (len - 1 - k)) (by cases A; simp only [Addr.add]; split <;> exact hb)).trans (hc k hlt)
      have hbx : Boxed wr Bs 102 (.slice (some A) len cap) := by
        rcases hnx.2 with h2 | h2
        · have := hBs.symm.trans h2; cases this
        · exact h2.trans hBs
      have hbc := hbx.cell
      obtain ⟨fn, tmps, assign, body, hy, hR⟩ := hY _ (f k) wr hJs (by rw [upF_length]; exact hlt)
      rw [hf k hlt] at hy
      obtain ⟨ix, hix⟩ : ∃ ix : Nat, ix = len - 1 - k := ⟨_, rfl⟩
      rw [← hix] at hcx hy
      have e1 : (len : Int) - 1 - k = ix := by omega
      have hixl : ix < len := by omega
      have hkx : k + ix + 1 = len := by omega
      clear hix
      rw [e1]
      have p0 : (0 ≤ (ix : Int)) = True := eq_true (by omega)
      have p1 : ((ix : Int) < (len : Int)) = True := eq_true (by omega)
      gi_wp2
      refine hR.mono ?_
      rintro e W3 (⟨rfl, hJ3, hk3⟩ | ⟨rfl, hJx3⟩)
      · gi_wp2
        go_roundw
        case rel =>
          refine ⟨k + 1, by omega, ?_, by rw [upF_succ]; exact hJ3, hnx.t hk3⟩
          congr 1
          omega
        case measure => simp [intOf]
      · gi_wp2
        refine bodyPost_ret (results_none rfl _ _ _) rfl ?_
        exact ⟨⟨_, rfl⟩, .inr ⟨_, ⟨k + 1, by omega, (upF_succ _ _).symm⟩, hJx3⟩⟩
    · obtain rfl : k = len := by omega
      have e1 : (k : Int) - 1 - k = -1 := by omega
      rw [e1]
      gi_wp2
      go_end0
      exact ⟨⟨_, rfl⟩, .inl ⟨_, rfl, hJs⟩⟩
theorem backF (F : Fence) (n : Nat) (h46 : F.fn 104) (hro : F.round = none) (a : Option Addr) (len cap : Nat) (w : World) :
    CallsIn F n Tryz.prog 104 #[.slice a len cap] w fun e w' => e = .returned (.func (.func 116) #[] #[.pointer (some ⟨w.heap.size, 0, none⟩)]) ∧ w' = w.alloc (.cells #[.slice a len cap] 102) := by
  refine callsIn_of_wp Tryz.func104 rfl h46 ?_ hro
  simp only [show Tryz.f104.ntmps = 4 from rfl, List.size_toArray, List.length_cons, List.length_nil, Nat.reduceAdd, Nat.reduceSub, Array.replicate_succ, Array.replicate_zero, List.push_toArray, List.append_toArray, List.nil_append, List.cons_append]
  gi_wp2
  go_ret
  exact ⟨rfl, rfl⟩
theorem stopB (F : Fence) (n : Nat) (h1 : F.fn 116) (hro : F.round = none) (hn : 1 ≤ n) (Bs n₀ len cap : Nat) (A : Addr) (f : Nat → Fig) (w : World) (hlen : len ≤ 1000000) (hb : A.block < n₀) (hn₀ : n₀ ≤ w.heap.size)
    (hBs : Boxed w Bs 102 (.slice (some A) len cap)) (hf : ∀ k, k < len → (f k).1.1 = len - 1 - k) (hc : ∀ k, k < len → w.cell? (A.add (len - 1 - k)) = some (.int .i64 (f k).1.2)) :
    SeqStopsK F n Tryz.prog 116 #[.pointer (some ⟨Bs, 0, none⟩)] (fun x : Fig => #[Value.int .i64 (x.1.1 : Int), Value.int .i64 x.1.2]) (KpB n₀ Bs) (fun ys => ys = upF f len) (fun pre => ∃ k, k ≤ len ∧ pre = upF f k) len w := fun l J Jx W hW _ _ hY h0 =>
  back1 F n h1 hro hn l Bs n₀ len cap A f hlen hb J Jx hY W ((hW.block Bs hBs.lt).trans hBs) hf (fun k hk => ((hW.mono hn₀).cell (p := A.add (len - 1 - k)) (by cases A; simp only [Addr.add]; split <;> exact hb)).trans (hc k hk)) h0
theorem KpB.b {n₀ Bs : Nat} {w : World} (hn : n₀ ≤ w.heap.size) (hB : Bs < w.heap.size) (W : World) (l : Nat) (o o' : Obj) (hl : w.heap.size ≤ l) (h : W.heap[l]? = some o) (h1 : o.isCells = false) (h2 : o.isWalk = false) : KpB n₀ Bs W (W.putObj l o') := by
  refine ⟨belowK_b hn W l o o' hl h h1 h2, ?_⟩
  have hg := grownBy_putObj' W l o'
  rcases Nat.lt_or_ge Bs W.heap.size with hlt | hge
  · exact .inr (hg.block Bs hlt (fun e => by cases e; omega))
  · exact .inl (Array.getElem?_eq_none hge)
/-- The bytes of the figures that have come. -/
def figB (len : Nat) (pre : List Fig) : ByteArray := pre.foldl (fun s x => s ++ (if (x.1.1 : Int) < (len : Int) - 1 then padB (itoaB x.1.2) 4 else itoaB x.1.2)) ByteArray.empty
theorem figB_snoc (len : Nat) (pre : List Fig) (x : Fig) : figB len (pre ++ [x]) = figB len pre ++ (if (x.1.1 : Int) < (len : Int) - 1 then padB (itoaB x.1.2) 4 else itoaB x.1.2) := by simp [figB]
theorem fig_size (len : Nat) (x : Fig) : (if (x.1.1 : Int) < (len : Int) - 1 then padB (itoaB x.1.2) 4 else itoaB x.1.2).size ≤ 20 := by
  have h := itoaB_size x.1.2 (by have := x.2; omega) (by have := x.2; omega)
  split
  · rw [padB_size]; omega
  · exact h
theorem figB_size (len : Nat) (pre : List Fig) : (figB len pre).size ≤ 20 * pre.length := by
  suffices h : ∀ (l : List Fig) (s : ByteArray), (l.foldl (fun s x => s ++ (if (x.1.1 : Int) < (len : Int) - 1 then padB (itoaB x.1.2) 4 else itoaB x.1.2)) s).size ≤ s.size + 20 * l.length by
    have := h pre ByteArray.empty
    have h0 : ByteArray.empty.size = 0 := rfl
    unfold figB
    omega
  intro l
  induction l with
  | nil => intro s; exact Nat.le_refl _
  | cons x l ih =>
    intro s
    have h1 := ih (s ++ (if (x.1.1 : Int) < (len : Int) - 1 then padB (itoaB x.1.2) 4 else itoaB x.1.2))
    have h2 := fig_size len x
    rw [ByteArray.size_append] at h1
    rw [List.foldl_cons, List.length_cons]
    omega
theorem figB_all (l : List Int) (f : Nat → Fig) (hf : ∀ k, k < l.length → (f k).1.1 = l.length - 1 - k) (hg : ∀ k, k < l.length → (f k).1.2 = l.getD (l.length - 1 - k) 0) : ∀ k, k < l.length → figB l.length (upF f (k + 1)) = figK l k
  | 0, h => by
    rw [upF_succ, figB_snoc, hf 0 h, hg 0 h, if_neg (by omega), figK]
    show ByteArray.empty ++ _ = _
    rw [ByteArray.empty_append]
    rfl
  | k + 1, h => by
    rw [upF_succ, figB_snoc, hf _ h, hg _ h, if_pos (by omega), figB_all l f hf hg k (by omega), figK, show l.length - 1 - (k + 1) = l.length - 2 - k by omega]
theorem builder_grown {T e : TypeId} {B b : Nat} {bs : List Value} {w w' : World} {row : Option Nat} (h : Lib.IsBuilderF T e B b bs w) (hg : w.grownBy w' row) (hrow : ∀ r, row = some r → ∃ o : Obj, w.heap[r]? = some o ∧ o.isCells = false) : Lib.IsBuilderF T e B b bs w' := by
  have key : ∀ p, Lib.BuilderAtF T e B b p bs w → Lib.BuilderAtF T e B b p bs w' := by
    rintro p ⟨hB, v, hb, hown, hne⟩
    have hlt : b < w.heap.size := (Array.getElem?_eq_some_iff.1 hb).1
    refine ⟨hB, v, (hg.block b hlt (fun e' => ?_)).trans hb, hown.kept hg ?_, hne⟩
    · obtain ⟨o, ho, hc⟩ := hrow b e'.symm
      rw [hb] at ho; cases ho; cases hc
    · rcases hown.2 with ⟨rfl, _⟩ | ⟨g, cap, cur, fz, rfl, _, hg', _⟩
      · exact .inl rfl
      · refine .inr (fun e' => ?_)
        obtain ⟨o, ho, hc⟩ := hrow g (by simpa [Value.ownBlock] using e'.symm)
        rw [hg'] at ho; cases ho; cases hc
  exact h.elim (fun x => .inl (key _ x)) (fun x => .inr (key _ x))
theorem builder_own {β : Type} (T e : TypeId) (B b : Nat) (f : β → List Value) : Own (fun s W => Lib.IsBuilderF T e B b (f s) W) := fun s X Y row h hg hrow => builder_grown h hg hrow
theorem below_all {w w' : World} (h : Below w.heap.size w w') : w.grownBy w' none := ⟨h.os, h.tape, h.output, h.size, fun k hk _ => h.block k hk⟩
theorem builder_below {T e : TypeId} {B b : Nat} {bs : List Value} {w w' : World} (h : Lib.IsBuilderF T e B b bs w) (hb : Below w.heap.size w w') : Lib.IsBuilderF T e B b bs w' := builder_grown h (below_all hb) (fun r e' => by cases e')
theorem others_below {w w' : World} (h : Below w.heap.size w w') : KeepsOthers w w' := ⟨h.size, fun k o hk _ => (h.block k (Array.getElem?_eq_some_iff.1 hk).1).trans hk⟩
theorem others_kept {e : TypeId} {b : Nat} {T : TypeId} {cs : Array Value} {fz : Nat × Nat} {w w' : World} (hs : w.heap.size ≤ w'.heap.size) (hb : w.heap[b]? = some (.cells cs T fz)) (h : Lib.OthersKept e (some b) w w') : KeepsOthers w w' :=
  ⟨hs, fun k o hk ho => h k o hk (fun e' => by cases e'; rw [hb] at hk; cases hk; cases ho) (fun c fz e' => by subst e'; cases ho)⟩
theorem itoaB_four {n : Int} (h0 : 0 ≤ n) (h1 : n ≤ 9999) : (itoaB n).size ≤ 4 := by
  obtain ⟨k, rfl⟩ : ∃ k : Nat, n = k := ⟨n.toNat, by omega⟩
  have one : ∀ c : Int, (ofInts [c]).size = 1 := fun c => rfl
  have s1 : ∀ j : Nat, j < 10 → (itoaB j).size = 1 := fun j hj => by rw [itoaB_small hj]; rfl
  have st : ∀ j : Nat, 10 ≤ j → (itoaB j).size = (itoaB (j / 10 : Nat)).size + 1 := fun j hj => by rw [itoaB_step hj, ByteArray.size_append, one]
  by_cases a1 : k < 10
  · have := s1 k a1; omega
  by_cases a2 : k / 10 < 10
  · have := st k (by omega); have := s1 _ a2; omega
  by_cases a3 : k / 10 / 10 < 10
  · have := st k (by omega); have := st (k / 10) (by omega); have := s1 _ a3; omega
  · have := st k (by omega); have := st (k / 10) (by omega); have := st (k / 10 / 10) (by omega); have := s1 (k / 10 / 10 / 10) (by omega); omega
theorem bytes_app (a b : ByteArray) : Lib.byteCells (a ++ b).data.toList = Lib.byteCells a.data.toList ++ Lib.strCells b := by simp [Lib.byteCells, Lib.strCells]
theorem callsInW {P : Program} {n : Nat} {f : FuncId} {vs : Array Value} {w : World} {R : Ending → World → Prop} (h : Calls P f vs w R) : CallsIn Fence.wide n P f vs w R := callsIn_wide.2 h
theorem builder_cells {T e : TypeId} {B b : Nat} {bs : List Value} {w : World} (h : Lib.IsBuilderF T e B b bs w) : ∃ cs, w.heap[b]? = some (.cells cs T (0, 0)) := by
  rcases h with ⟨_, v, hb, _⟩ | ⟨_, v, hb, _⟩ <;> exact ⟨_, hb⟩
theorem below_back {B : Nat} {a b c : World} (h : Below B a b) (k : Below B a c) (hs : b.heap.size ≤ c.heap.size) : Below B b c := ⟨k.os.trans h.os.symm, k.tape.trans h.tape.symm, k.output.trans h.output.symm, hs, fun i hi => (k.block i hi).trans (h.block i hi).symm⟩
theorem text_raw (A : Addr) (n c : Nat) (l : List Int) (w : World) (hn : l.length = n) (h0 : 0 < n) (hl : ∀ k, 0 ≤ l.getD k 0 ∧ l.getD k 0 ≤ 9999) (hb : n ≤ 10000) (hA : A.block < w.heap.size) (hc : ∀ j, j < n → w.cell? (A.add j) = some (.int .i64 (l.getD j 0)))
    (hI : ∀ (d : Int) w1, 0 ≤ d → d ≤ 9999 → Below w.heap.size w w1 → Calls Tryz.prog 96 #[.int .i64 d] w1 fun e w' => e = .returned (.string (itoaB d)) ∧ Below w1.heap.size w1 w')
    (hR : ∀ (k : Nat) w1, k ≤ 4 → Below w.heap.size w w1 → Calls Tryz.prog 93 #[.string ⟨#[48]⟩, .int .i64 k] w1 fun e w' => e = .returned (.string (zeroS k)) ∧ Below w1.heap.size w1 w') :
    Calls Tryz.prog 91 #[.slice (some A) n c] w fun e w' => e = .returned (.string (figL l)) ∧ Below w.heap.size w w' := by
  refine (callsIn_wide (n := 4)).1 ?_
  refine callsIn_of_wp_marks Tryz.func91 rfl trivial ?_ rfl
  simp only [show Tryz.f91.ntmps = 30 from rfl, List.size_toArray, List.length_cons, List.length_nil, Nat.reduceAdd, Nat.reduceSub, Array.replicate_succ, Array.replicate_zero, List.push_toArray, List.append_toArray, List.nil_append, List.cons_append]
  have bA := Boxed.new w 102 (.slice (some A) n c)
  have bAc := bA.cell
  have hsA : (w.alloc (.cells #[.slice (some A) n c] 102)).heap.size = w.heap.size + 1 := World.size_alloc ..
  have hn0 : ((n : Int) = 0) = False := eq_false (by omega)
  gi_wp2
  refine ⟨trivial, ?_⟩
  refine (backF Fence.wide _ trivial rfl _ _ _ _).mono ?_
  rintro e w3 ⟨rfl, rfl⟩
  have bB := Lib.fresh_isBuilder 70 5 (w.alloc (.cells #[.slice (some A) n c] 102))
  have bX := Boxed.new ((w.alloc (.cells #[.slice (some A) n c] 102)).alloc (.cells #[.pointer none, .slice none 0 0] 70)) 102 (.slice (some A) n c)
  have hs2 : ((w.alloc (.cells #[.slice (some A) n c] 102)).alloc (.cells #[.pointer none, .slice none 0 0] 70)).heap.size = w.heap.size + 2 := by rw [World.size_alloc, hsA]
  have hs3 : (((w.alloc (.cells #[.slice (some A) n c] 102)).alloc (.cells #[.pointer none, .slice none 0 0] 70)).alloc (.cells #[.slice (some A) n c] 102)).heap.size = w.heap.size + 3 := by rw [World.size_alloc, hs2]
  rw [hsA] at bB
  rw [hs2] at bX
  have hB0 : Below w.heap.size w (((w.alloc (.cells #[.slice (some A) n c] 102)).alloc (.cells #[.pointer none, .slice none 0 0] 70)).alloc (.cells #[.slice (some A) n c] 102)) := (((Below.refl w.heap.size w).alloc (Nat.le_refl _) _).alloc (by simp) _).alloc (by simp; omega) _
  replace bB := (Lib.IsBuilderF.of bB).alloc (.cells #[.slice (some A) n c] 102)
  have xA := (bA.alloc (.cells #[.pointer none, .slice none 0 0] 70)).alloc (.cells #[.slice (some A) n c] 102)
  rw [hs2]
  generalize hW0 : (((w.alloc (.cells #[.slice (some A) n c] 102)).alloc (.cells #[.pointer none, .slice none 0 0] 70)).alloc (.cells #[.slice (some A) n c] 102)) = W0 at bB bX hs3 hB0 xA ⊢
  clear hW0 bA bAc
  gi_wp2
  obtain ⟨f, hf1, hf2⟩ : ∃ f : Nat → Fig, (∀ k, (f k).1.1 = n - 1 - k) ∧ ∀ k, (f k).1.2 = l.getD (n - 1 - k) 0 := ⟨fun k => ⟨(n - 1 - k, l.getD (n - 1 - k) 0), hl _⟩, fun k => rfl, fun k => rfl⟩
  refine wpIn_rangeFunc_ownG rfl (by decide) (gf := 116) (lb := #[.pointer (some ⟨w.heap.size + 2, 0, none⟩)]) rfl trivial (enters_of Tryz.func116 (by kernel_rfl) rfl)
    (stopB Fence.wide _ trivial rfl (by decide) (w.heap.size + 2) w.heap.size n c A f W0 (by omega) hA (by omega) bX (fun k _ => hf1 k) (fun k hk => by rw [hf2]; exact ((hB0.cell (p := A.add (n - 1 - k)) (by cases A; simp only [Addr.add]; split <;> exact hA)).trans (hc _ (by omega)))))
    KpB.t (KpB.b (by omega) (by omega)) (Below.refl _ _) (fun _ => rfl)
    (fun pre W => (Lib.IsBuilderF 70 5 (w.heap.size + 1) (w.heap.size + 1) (Lib.byteCells (figB n pre).data.toList) W ∧ Boxed W w.heap.size 102 (.slice (some A) n c) ∧ Boxed W (w.heap.size + 2) 102 (.slice (some A) n c)) ∧ Below w.heap.size w W) (fun _ _ _ => False)
    (OwnFrom.and (OwnFrom.and (Own.from (builder_own _ _ _ _ _) _) (OwnFrom.and (Own.from (boxed_own _ _ _) _) (Own.from (boxed_own _ _ _) _))) (ownFrom_below (Nat.le_refl _) (by omega)))
    (fun _ _ _ _ _ hs _ _ => hs)
    ⟨⟨bB, xA, bX⟩, hB0⟩
    (fun x => { tmps := #[.slice (some A) n c, .pointer (some ⟨w.heap.size, 0, none⟩), .string ⟨#[]⟩, .pointer (some ⟨w.heap.size + 1, 0, none⟩), .int .i64 (x.1.1 : Int), .int .i64 x.1.2, undef, .slice (some A) n c, .int .i64 n, .bool false, .slice (some A) n c, .func (.func 116) #[] #[.pointer (some ⟨w.heap.size + 2, 0, none⟩)], .int .i64 (x.1.1 : Int), .int .i64 x.1.2, undef, undef, undef, undef, undef, undef, undef, undef, undef, undef, undef, undef, undef, undef, undef, undef], defers := [] }) ?assign ?body ?done ?stop
  case assign =>
    intro l x W K hK
    gi_wp2
    exact hK
  case body =>
    rintro lp pre x W ⟨⟨hBd, hBx, hBy⟩, hBl⟩ hpre
    have hBxc := hBx.cell
    have hbz := figB_size n pre
    gi_wp2
    refine ⟨trivial, ?_⟩
    refine (CallsIn.inRound lp (callsInW (hI x.1.2 W x.2.1 x.2.2 hBl))).mono ?_
    rintro e W1 ⟨rfl, hb1⟩
    have hi4 := itoaB_four x.2.1 x.2.2
    have e4 : (4 : Int) - ((itoaB x.1.2).size : Nat) = ((4 - (itoaB x.1.2).size : Nat) : Int) := by omega
    have hzs := zeroS_size (4 - (itoaB x.1.2).size)
    have hBd1 := builder_below hBd hb1
    have hBx1 : Boxed W1 w.heap.size 102 (.slice (some A) n c) := (hb1.block _ hBx.lt).trans hBx
    have hBy1 : Boxed W1 (w.heap.size + 2) 102 (.slice (some A) n c) := (hb1.block _ hBy.lt).trans hBy
    have hBl1 := hBl.trans (hb1.mono hBl.size)
    have hk1 := others_below hb1
    have hBxc1 := hBx1.cell
    clear hBxc
    gi_wp2
    · have hlt : (x.1.1 : Int) < (n : Int) - 1 := by first | assumption | simp_all
      refine ⟨trivial, ?_⟩
      refine (CallsIn.inRound lp (callsInW (hR (4 - (itoaB x.1.2).size) W1 (by omega) hBl1))).mono ?_
      rintro e W2 ⟨rfl, hb2⟩
      have hBd2 := builder_below hBd1 hb2
      have hBx2 : Boxed W2 w.heap.size 102 (.slice (some A) n c) := (hb2.block _ hBx1.lt).trans hBx1
      have hBy2 : Boxed W2 (w.heap.size + 2) 102 (.slice (some A) n c) := (hb2.block _ hBy1.lt).trans hBy1
      have hBl2 := hBl1.trans (hb2.mono hBl1.size)
      have hk2 := hk1.trans (others_below hb2)
      gi_wp2
      refine ⟨trivial, ?_⟩
      refine (CallsIn.inRound lp (callsInW (wstr (w.heap.size + 1) (w.heap.size + 1) _ (zeroS (4 - (itoaB x.1.2).size) ++ itoaB x.1.2) W2 hBd2 (by rw [Lib.byteCells_length, ByteArray.size_append]; show (figB n pre).size + _ ≤ _; omega) (by have := hBy2.lt; omega)))).mono ?_
      rintro e W3 ⟨rfl, hAt, hb3, ho3⟩
      obtain ⟨cs, hcs⟩ := builder_cells hBd2
      have hBx3 : Boxed W3 w.heap.size 102 (.slice (some A) n c) := (hb3.block _ (by omega)).trans hBx2
      have hBy3 : Boxed W3 (w.heap.size + 2) 102 (.slice (some A) n c) := ho3 _ _ hBy2 (by simp) (fun c fz e => by injection e with _ h; exact absurd h (by decide))
      have hBl3 := hBl2.trans (hb3.mono (Nat.le_succ _))
      have hk3 := hk2.trans (others_kept hb3.size hcs ho3)
      gi_wp2
      exact ⟨hk3.from _, ⟨below_back hBl hBl3 hk3.size, .inr (hBy3.trans hBy.symm)⟩, ⟨.inr (by rw [figB_snoc, if_pos hlt, bytes_app]; exact hAt), hBx3, hBy3⟩, hBl3⟩
    · have hlt : ¬ (x.1.1 : Int) < (n : Int) - 1 := by
        have : (n : Int) - 1 ≤ (x.1.1 : Int) := by assumption
        omega
      refine ⟨trivial, ?_⟩
      refine (CallsIn.inRound lp (callsInW (wstr (w.heap.size + 1) (w.heap.size + 1) _ (itoaB x.1.2) W1 hBd1 (by rw [Lib.byteCells_length]; show (figB n pre).size + _ ≤ _; omega) (by have := hBy1.lt; omega)))).mono ?_
      rintro e W3 ⟨rfl, hAt, hb3, ho3⟩
      obtain ⟨cs, hcs⟩ := builder_cells hBd1
      have hBx3 : Boxed W3 w.heap.size 102 (.slice (some A) n c) := (hb3.block _ (by omega)).trans hBx1
      have hBy3 : Boxed W3 (w.heap.size + 2) 102 (.slice (some A) n c) := ho3 _ _ hBy1 (by simp) (fun c fz e => by injection e with _ h; exact absurd h (by decide))
      have hBl3 := hBl1.trans (hb3.mono (Nat.le_succ _))
      have hk3 := hk1.trans (others_kept hb3.size hcs ho3)
      gi_wp2
      exact ⟨hk3.from _, ⟨below_back hBl hBl3 hk3.size, .inr (hBy3.trans hBy.symm)⟩, ⟨.inr (by rw [figB_snoc, if_neg (by omega), bytes_app]; exact hAt), hBx3, hBy3⟩, hBl3⟩
  case done =>
    rintro D ys W hD rfl ⟨⟨hBd, hBx, hBy⟩, hBl⟩ hK
    have hfin : figB n (upF f n) = figL l := by
      unfold figL
      rw [if_neg (by omega), hn]
      have := figB_all l f (fun k _ => by rw [hf1, hn]) (fun k _ => by rw [hf2, hn]) (n - 1) (by omega)
      rw [show n - 1 + 1 = n by omega, hn] at this
      exact this
    rw [hfin] at hBd
    gi_wp2
    refine ⟨trivial, ?_⟩
    refine (callsInW (Tryz.Builder_String_any_k (w.heap.size + 1) (w.heap.size + 1) (figL l).data.toList W hBd (by have := hBy.lt; omega))).mono ?_
    rintro e W3 ⟨rfl, hBd3, hb3, ho3⟩
    have hK3 : W3.heap[D]? = some (.deferred (some [])) := ho3 D _ hK (by simp; omega) (fun c fz e => by cases e)
    have hBl3 := hBl.trans (hb3.mono (Nat.le_succ _))
    gi_wp2
    refine ⟨by simp, .inl ⟨_, _, rfl, run_takeDeferred hK3, ?_⟩⟩
    exact ⟨_, results_tmp rfl _ _ _, rfl, hBl3.trans (belowK_b (w := w) (Nat.le_refl _) W3 D _ _ (by omega) hK3 rfl rfl)⟩
  case stop =>
    rintro D c pre W _ _ h _
    exact h.elim
theorem Ok.at_below {P : Program} {f : FuncId} {args : List PV} {v : Value} {D : Nat → Prop} {w w1 : World} {vs : Array Value} (h : Ok P f args (.b v) []) (hD : ∀ b, D b → b < w.heap.size) (hg : GL P D w) (hb : Below w.heap.size w w1) (hv : RVs P noPhi D w args vs) : Calls P f vs w1 fun e w' => e = .returned v ∧ Below w1.heap.size w1 w' := by
  obtain ⟨t, m⟩ := MR.below hD hg hb
  have hv1 : RVs P noPhi D w1 args vs := hv.mono ⟨fun _ _ _ h => h, t.dd, t.same, t.shape, t.size, t.dnew, t.pnew⟩
  refine (h D w1 vs m.dlt m.gl hv1).mono fun e w' ⟨v', φ', D', he, ht, hm, hr⟩ => ?_
  cases hr
  exact ⟨he, ⟨hm.os, hm.tape, hm.output, hm.size, fun k hk => hm.keep k hk (fun h => h)⟩⟩
theorem RV.val_inv {P : Program} {φ : Phi} {D : Nat → Prop} {w : World} {n : Nat} {xs : List PV} {v : Value} (h : RV P φ D w (.val n xs) v) (hn : 0 < n) : ∃ (a : Addr) (c : Nat) (f : Nat → Value), v = .slice (some a) n c ∧ D a.block ∧ (∀ j x, xs[j]? = some x → w.cell? (a.add j) = some (f j)) ∧ ∀ j x, xs[j]? = some x → RV P φ D w x (f j) := by
  cases h with
  | val hn' hd hc h => exact ⟨_, _, _, rfl, hd, hc, h⟩
  | val0 => omega
/-- A number that is not nothing, as a text. -/
theorem text_pos (l : List Int) (hl : ∀ k, 0 ≤ l.getD k 0 ∧ l.getD k 0 ≤ 9999) (hn : l.length ≤ 10000) (h0 : 0 < l.length) : Ok Tryz.prog 91 [.val l.length (l.map vI)] (vS (figL l)) [] := by
  intro D w vs hD hg ha
  obtain ⟨hsz, hv⟩ := ha
  have h1 := hv 0 (.val l.length (l.map vI)) rfl
  obtain ⟨v0, rfl⟩ : ∃ v0, vs = #[v0] := by
    rcases vs with ⟨_ | ⟨a, _ | ⟨b, c⟩⟩⟩ <;> simp at hsz
    exact ⟨a, rfl⟩
  simp at h1
  obtain ⟨a, c, f, rfl, hd, hc, hx⟩ := RV.val_inv h1 h0
  have hI := fun (d : Int) w1 (h0 : 0 ≤ d) (h1 : d ≤ 9999) hb => Ok.at_below (w1 := w1) (vs := #[.int .i64 d]) (itoa_ok d (by omega) (by omega)) hD hg hb ⟨rfl, fun j x hj => by
    cases j with
    | zero => simp at hj; subst hj; exact .b _
    | succ j => simp at hj⟩
  have hR := fun (k : Nat) w1 (h1 : k ≤ 4) hb => Ok.at_below (w1 := w1) (vs := #[.string ⟨#[48]⟩, .int .i64 k]) (zeros_ok k (by omega)) hD hg hb ⟨rfl, fun j x hj => by
    cases j with
    | zero => simp at hj; subst hj; exact .b _
    | succ j => cases j with
      | zero => simp at hj; subst hj; exact .b _
      | succ j => simp at hj⟩
  refine (text_raw a l.length c l w rfl h0 hl hn (hD _ hd) (fun j hj => ?_) hI hR).mono fun e w' ⟨he, hb⟩ => ?_
  · have hget : (l.map vI)[j]? = some (vI (l.getD j 0)) := by
      rw [List.getElem?_map, List.getElem?_eq_getElem hj, List.getD_eq_getElem?_getD, List.getElem?_eq_getElem hj]
      rfl
    have h2 := hc j _ hget
    have h3 := hx j _ hget
    generalize f j = y at h2 h3
    cases h3
    exact h2
  · obtain ⟨t, m⟩ := MR.below hD hg hb
    exact ⟨_, noPhi, D, he, t, m, .b _⟩
end
theorem text_ok (l : List Int) (hl : ∀ k, 0 ≤ l.getD k 0 ∧ l.getD k 0 ≤ 9999) (hn : l.length ≤ 10000) : Ok Tryz.prog 91 [.val l.length (l.map vI)] (vS (figL l)) [] := by
  by_cases h0 : 0 < l.length
  · exact text_pos l hl hn h0
  · obtain rfl : l = [] := List.eq_nil_of_length_eq_zero (by omega)
    refine Ok.walk Tryz.func91 rfl ?_; simp only [startSt, show Tryz.f91.ntmps = 30 from rfl, List.length_cons, List.length_nil, Nat.reduceAdd, Nat.reduceSub, List.replicate, List.cons_append, List.nil_append]
    repeat' first | (with_reducible first | refine W.seq ?_ | refine W.region ?_ | refine W_ret ?_ | refine Seq.normal ?_ | refine Seq.ret ?_ | refine aops_nil ?_) | ((with_reducible refine aops_run ?_ (fun K' hK' => ?_)); exact rfl) | ((with_reducible refine hK' _ _ ?_); clear hK'; dsimp only [put, List.set]) | ((with_reducible apply W_cond); (case hc => exact rfl); (case' h2 => (intro hc; replace hc := of_decide_eq_false hc)); (case' h1 => (intro hc; replace hc := of_decide_eq_true hc)); all_goals try (exfalso; first | omega | exact hc rfl | exact hc trivial | exact Bool.noConfusion hc)) | ((with_reducible first | refine Ends.ret ?_ | refine Ends.normal ?_); simp only [aRes, show Tryz.f91.results.toList = [.tmp 2] from rfl, aRess, aResV, oneOf, List.getD_cons_zero, List.getD_cons_succ]) | (simp only [aop, Option.isSome_some, St.eval, List.getD_cons_zero, List.getD_cons_succ, aBin, binI, aLoad, loadPV_one, aLen, aBuiltin, cellsOf, upd, Nat.mul_one, List.map_cons, List.map_nil, List.length_cons, List.length_nil, List.drop_zero, if_true, true_and, Nat.reduceMul, Nat.reduceLT, Nat.zero_add, Nat.add_zero, se102, ti102]; (all_goals fail_if_success show False))
    all_goals exact Out.flat' rfl
end Go.Proofs.YtneapbfomhalpaaGreatDoor.T
