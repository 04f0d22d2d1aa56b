/- The draws of the store, walked, part 25: what a cell of a disk without waiting writes is read as (a range over a function that hands nothing over). -/
import Derived.Test.YtknciobaifdafaaGreatDoorQU
import Derived.Test.YtknciobaifdafaaGreatDoorQD
import Derived.OwnWalkIn
import Derived.RangeFuncBound
import Derived.RangeFuncBox
import Derived.RangeFuncCalls
import Derived.RangeFuncLeaves
import Derived.RangeFuncNested
import Derived.Shelf.Abstract
import Derived.Shelf.RegionOpen
import Derived.TacticsInMore
import Derived.LoopIn
import Derived.LoopNIn
set_option linter.unusedVariables false
set_option linter.unusedSimpArgs false
set_option maxRecDepth 100000
set_option maxHeartbeats 4000000
namespace Go.Proofs.YtknciobaifdafaaGreatDoor.T
open Go Go.Pv Go.Proofs.YtknciobaifdafaaGreatDoor.EF
section
open Go.Shelf Go.RowKit
attribute [local go_sem] Oper.semAt_some Instr.makeFunc Op.unary
theorem backE (F : Fence) (n : Nat) (h1 : F.fn 135) (hro : F.round = none) (l Bs : Nat) (A : Option Addr) (cap : Nat) (J : World → Prop) (W : World) (hBs : W.cell? ⟨Bs, 0, none⟩ = some (.slice A 0 cap)) (h0 : J W) :
    CallsIn F n Tryz.prog 135 #[.func (.yield l) #[] #[], .pointer (some ⟨Bs, 0, none⟩)] W fun e W' => (∃ v, e = .returned v) ∧ J W' := by
  refine callsIn_of_wp Tryz.func135 rfl h1 ?_ hro
  simp only [show Tryz.f135.ntmps = 19 from rfl, List.size_toArray, List.length_cons, List.length_nil, Nat.reduceAdd, Nat.reduceSub, Array.replicate_succ, Array.replicate_zero, List.push_toArray, List.append_toArray, List.nil_append, List.cons_append]
  gi_wp2
  gi_loopw [3] (fun i wr => i = .int .i64 (-1) ∧ J wr) (fun i _ => 0)
  case atStart => exact ⟨rfl, h0⟩
  case round =>
    obtain ⟨rfl, hJ⟩ := hrel
    gi_wp2
    go_end0
    exact ⟨⟨_, rfl⟩, hJ⟩
theorem backF (F : Fence) (n : Nat) (h46 : F.fn 87) (hro : F.round = none) (a : Option Addr) (len cap : Nat) (w : World) :
    CallsIn F n Tryz.prog 87 #[.slice a len cap] w fun e w' => e = .returned (.func (.func 135) #[] #[.pointer (some ⟨w.heap.size, 0, none⟩)]) ∧ w' = w.alloc (.cells #[.slice a len cap] 31) := by
  refine callsIn_of_wp Tryz.func87 rfl h46 ?_ hro
  simp only [show Tryz.f87.ntmps = 4 from rfl, List.size_toArray, List.length_cons, List.length_nil, Nat.reduceAdd, Nat.reduceSub, Array.replicate_succ, Array.replicate_zero, List.push_toArray, List.append_toArray, List.nil_append, List.cons_append]
  gi_wp2
  go_ret
  exact ⟨rfl, rfl⟩
theorem stopE (F : Fence) (n : Nat) (h1 : F.fn 135) (hro : F.round = none) (Bs : Nat) (A : Option Addr) (cap : Nat) (w : World) (hlt : Bs < w.heap.size) (hc : w.cell? ⟨Bs, 0, none⟩ = some (.slice A 0 cap)) :
    SeqStopsK (α := Empty) F n Tryz.prog 135 #[.pointer (some ⟨Bs, 0, none⟩)] (fun x => x.elim) (fun _ _ => True) (fun xs => xs = []) (fun _ => False) 0 w := fun l J Jx W hb hJ hJx hY h0 =>
  (backE F n h1 hro l Bs A cap (J []) W ((hb.cell (p := ⟨Bs, 0, none⟩) hlt).trans hc) h0).mono fun e W' ⟨hv, hj⟩ => ⟨hv, .inl ⟨[], rfl, hj⟩⟩
theorem rangeE {Q : Exit → Act → World → Prop} {assign body : Code} (a : Act) (w : World) (Bs : Nat) (A : Option Addr) (cap : Nat) (hev : a.eval (.tmp 17) = .func (.func 135) #[] #[.pointer (some ⟨Bs, 0, none⟩)]) (hlt : Bs < w.heap.size) (hc : w.cell? ⟨Bs, 0, none⟩ = some (.slice A 0 cap))
    (hQ : ∀ (D : Nat) (W : World), w.heap.size ≤ D → Below w.heap.size w W → W.heap[D]? = some (.deferred (some [])) → Q .normal { a with defers := { target := .collected D, args := #[] } :: a.defers } W) :
    (Code.rangeFunc (.tmp 17) #[18, 19] assign body).wpIn Fence.wide 3 Tryz.prog Q a w :=
  wpIn_rangeFunc_ownH (α := Empty) rfl (by decide) (gf := 135) (lb := #[.pointer (some ⟨Bs, 0, none⟩)]) hev trivial (enters_of Tryz.func135 (by kernel_rfl) rfl)
    (stopE Fence.wide 2 trivial rfl Bs A cap w hlt hc) (fun _ _ => trivial) (fun _ _ _ _ _ _ _ _ => trivial) (Below.refl _ _) (fun x => x.elim)
    (fun _ W => Below w.heap.size w W) (fun _ _ _ => False) (ownFrom_below (Nat.le_refl _) (Nat.le_refl _)) (fun _ s A B row hs _ _ => hs.elim) (Below.refl _ _) (fun x _ _ => x.elim) (fun x => x.elim)
    (fun _ _ x => x.elim) (fun _ _ x => x.elim) (fun D xs W hD _ hB hK => hQ D W hD hB hK) (fun _ _ _ _ _ hx => hx.elim)
theorem Ok.at_below {P : Program} {f : FuncId} {args : List PV} {v : Value} {D : Nat → Prop} {w w1 : World} {vs : Array Value} (h : Ok P f args (.b v) []) (hD : ∀ b, D b → b < w.heap.size) (hg : GL P D w) (hb : Below w.heap.size w w1) (hv : RVs P qi D w args vs) : Calls P f vs w1 fun e w' => e = .returned v ∧ Below w1.heap.size w1 w' := by
  obtain ⟨t, m⟩ := MR.below hD hg hb
  have hv1 : RVs P qi D w1 args vs := hv.mono ⟨fun _ _ _ h => h, t.dd, t.same, t.shape, t.size, t.dnew, t.pnew⟩
  refine (h D w1 vs m.dlt m.gl hv1).mono fun e w' ⟨v', φ', D', he, ht, hm, hr⟩ => ?_
  cases hr
  exact ⟨he, ⟨hm.os, hm.tape, hm.output, hm.size, fun k hk => hm.keep k hk (fun h => h)⟩⟩
theorem callsInW {P : Program} {n : Nat} {f : FuncId} {vs : Array Value} {w : World} {R : Ending → World → Prop} (h : Calls P f vs w R) : CallsIn Fence.wide n P f vs w R := callsIn_wide.2 h
theorem blkC {w : World} {g : Nat} {cs : Array Value} {t : TypeId} (h : w.heap[g]? = some (.cells cs t)) (j : Nat) : w.cell? ⟨g, j, none⟩ = cs[j]? := by
  simp [World.cell?, h]
theorem diskRead_raw (A0 : Addr) (A1 : Option Addr) (c0 c1 n : Nat) (a2 a3 : Int) (at_ : Nat) (s : ByteArray) (w : World) (hat : at_ < n) (hn : n ≤ 1000)
    (hO : ∀ w1, Below w.heap.size w w1 → Calls Tryz.prog 72 #[.agg #[.slice (some A0) n c0, .slice A1 0 c1, .int .i64 a2, .int .i64 a3]] w1 fun e w' => e = .returned (.bool true) ∧ Below w1.heap.size w1 w')
    (hI : ∀ w1, Below w.heap.size w w1 → Calls Tryz.prog 86 #[.int .i64 at_] w1 fun e w' => e = .returned (.bool true) ∧ Below w1.heap.size w1 w')
    (hA : A0.block < w.heap.size) (hc : w.cell? (A0.add at_) = some (.string s)) :
    Calls Tryz.prog 40 #[.agg #[.slice (some A0) n c0, .slice A1 0 c1, .int .i64 a2, .int .i64 a3], .int .i64 at_] w fun e w' => e = .returned (.string s) ∧ Below w.heap.size w w' := by
  refine (callsIn_wide (n := 3)).1 ?_
  refine callsIn_of_wp_marks Tryz.func40 rfl trivial ?_ rfl
  simp only [show Tryz.f40.ntmps = 31 from rfl, List.size_toArray, List.length_cons, List.length_nil, Nat.reduceAdd, Nat.reduceSub, Array.replicate_succ, Array.replicate_zero, List.push_toArray, List.append_toArray, List.nil_append, List.cons_append]
  have hu33 := Tryz.underlying33
  have k0 : (((w.alloc (.cells #[.slice (some A0) n c0, .slice A1 0 c1, .int .i64 a2, .int .i64 a3] 33)).alloc (.cells #[.int .i64 at_] 3)).alloc (.cells #[.string ⟨#[]⟩] 9)).heap[w.heap.size]? = some (.cells #[.slice (some A0) n c0, .slice A1 0 c1, .int .i64 a2, .int .i64 a3] 33) := by
    rw [Below.heap_alloc _ _ _ (by simp; omega), Below.heap_alloc _ _ _ (by simp), heap_alloc_new]
  have k1 : (((w.alloc (.cells #[.slice (some A0) n c0, .slice A1 0 c1, .int .i64 a2, .int .i64 a3] 33)).alloc (.cells #[.int .i64 at_] 3)).alloc (.cells #[.string ⟨#[]⟩] 9)).heap[w.heap.size + 1]? = some (.cells #[.int .i64 at_] 3) := by
    rw [Below.heap_alloc _ _ _ (by simp)]
    have := heap_alloc_new (w.alloc (.cells #[.slice (some A0) n c0, .slice A1 0 c1, .int .i64 a2, .int .i64 a3] 33)) (.cells #[.int .i64 at_] 3)
    rwa [World.size_alloc] at this
  have k2 : (((w.alloc (.cells #[.slice (some A0) n c0, .slice A1 0 c1, .int .i64 a2, .int .i64 a3] 33)).alloc (.cells #[.int .i64 at_] 3)).alloc (.cells #[.string ⟨#[]⟩] 9)).heap[w.heap.size + 1 + 1]? = some (.cells #[.string ⟨#[]⟩] 9) := by
    have := heap_alloc_new ((w.alloc (.cells #[.slice (some A0) n c0, .slice A1 0 c1, .int .i64 a2, .int .i64 a3] 33)).alloc (.cells #[.int .i64 at_] 3)) (.cells #[.string ⟨#[]⟩] 9)
    rwa [World.size_alloc, World.size_alloc] at this
  have hb0 : Below w.heap.size w (((w.alloc (.cells #[.slice (some A0) n c0, .slice A1 0 c1, .int .i64 a2, .int .i64 a3] 33)).alloc (.cells #[.int .i64 at_] 3)).alloc (.cells #[.string ⟨#[]⟩] 9)) := (((Below.refl w.heap.size w).alloc (Nat.le_refl _) _).alloc (by simp) _).alloc (by simp; omega) _
  have hs3 : (((w.alloc (.cells #[.slice (some A0) n c0, .slice A1 0 c1, .int .i64 a2, .int .i64 a3] 33)).alloc (.cells #[.int .i64 at_] 3)).alloc (.cells #[.string ⟨#[]⟩] 9)).heap.size = w.heap.size + 3 := by simp
  have z00 := blkC k0 0
  have z01 := blkC k0 1
  have z02 := blkC k0 2
  have z03 := blkC k0 3
  simp at z00 z01 z02 z03
  gi_wp2
  refine ⟨trivial, ?_⟩
  clear z00 z01 z02 z03
  gi_at_call 72
  refine (callsInW (hO _ hb0)).mono ?_
  generalize (((w.alloc (.cells #[.slice (some A0) n c0, .slice A1 0 c1, .int .i64 a2, .int .i64 a3] 33)).alloc (.cells #[.int .i64 at_] 3)).alloc (.cells #[.string ⟨#[]⟩] 9)) = W3 at k0 k1 k2 hb0 hs3 ⊢
  rintro e w1 ⟨rfl, hb1⟩
  have y0 := (hb1.block _ (by omega)).trans k0
  have y1 := (hb1.block _ (by omega)).trans k1
  have y2 := (hb1.block _ (by omega)).trans k2
  have hbw := hb0.trans (hb1.mono hb0.size)
  have y10 := blkC y1 0
  simp at y10
  have hs1 := hb1.size
  gi_wp2
  refine ⟨trivial, ?_⟩
  gi_at_call 86
  refine (callsInW (hI _ hbw)).mono ?_
  rintro e w2 ⟨rfl, hb2⟩
  have hs2 := hb2.size
  replace y0 := (hb2.block _ (by omega)).trans y0
  replace y1 := (hb2.block _ (by omega)).trans y1
  replace y2 := (hb2.block _ (by omega)).trans y2
  replace hbw := hbw.trans (hb2.mono hbw.size)
  have y01 := blkC y0 1
  simp at y01
  gi_wp2
  refine ⟨trivial, ?_⟩
  gi_at_call 87
  refine (backF Fence.wide _ trivial rfl _ _ _ _).mono ?_
  rintro e w3 ⟨rfl, rfl⟩
  have e0 := (Below.heap_alloc w2 (.cells #[.slice A1 0 c1] 31) w.heap.size (by omega)).trans y0
  have e1 := (Below.heap_alloc w2 (.cells #[.slice A1 0 c1] 31) (w.heap.size + 1) (by omega)).trans y1
  have e2 := (Below.heap_alloc w2 (.cells #[.slice A1 0 c1] 31) (w.heap.size + 1 + 1) (by omega)).trans y2
  have e3 := heap_alloc_new w2 (.cells #[.slice A1 0 c1] 31)
  have hsz : (w2.alloc (.cells #[.slice A1 0 c1] 31)).heap.size = w2.heap.size + 1 := World.size_alloc ..
  replace hbw := hbw.trans ((Below.refl w2.heap.size w2).alloc (Nat.le_refl _) (.cells #[.slice A1 0 c1] 31) |>.mono hbw.size)
  generalize w2.alloc (.cells #[.slice A1 0 c1] 31) = W0 at e0 e1 e2 e3 hsz hbw ⊢
  clear y0 y1 y2 y01 y10 k0 k1 k2
  gi_wp2
  refine rangeE _ _ w2.heap.size A1 c1 rfl (by omega) (by have := blkC e3 0; simpa using this) ?_
  rintro D W hD hB hK
  replace e0 := (hB.block _ (by omega)).trans e0
  replace e1 := (hB.block _ (by omega)).trans e1
  replace e2 := (hB.block _ (by omega)).trans e2
  replace hbw := hbw.trans (hB.mono hbw.size)
  have hcA : W.cell? (A0.add at_) = some (.string s) := (hbw.cell (p := A0.add at_) (by cases A0; simp only [Addr.add]; split <;> exact hA)).trans hc
  have z0 := blkC e0 0
  have z1 := blkC e1 0
  have z2 := blkC e2 0
  have zf : W.frozen? ⟨w.heap.size + 1 + 1, 0, none⟩ = false := by simp [World.frozen?, e2]
  simp at z0 z1 z2
  have p0 : (0 ≤ (at_ : Int)) = True := eq_true (by omega)
  have p1 : ((at_ : Int) < (n : Int)) = True := eq_true (by omega)
  gi_wp2
  have hK' := (KeepsOthers.setCell W ⟨w.heap.size + 1 + 1, 0, none⟩ (.string s)).same D _ hK rfl
  refine ⟨by simp, .inl ⟨_, _, rfl, run_takeDeferred hK', ?_⟩⟩
  have hc5 := cell_kept (World.cell?_setCell_same' W ⟨w.heap.size + 1 + 1, 0, none⟩ (.string s) (by rw [z2]; rfl)) (grownBy_putObj' _ D (.deferred none)) (fun r e => by cases e; exact ⟨_, hK', rfl⟩)
  refine ⟨.string s, ?_, rfl, (hbw.setCell (p := ⟨w.heap.size + 1 + 1, 0, none⟩) (by simp; omega) _).trans (belowK_b (w := w) (Nat.le_refl _) _ D _ _ (by have := hbw.size; omega) hK' rfl rfl)⟩
  simp [results, Tryz.f40, go_sem, hc5]
theorem RV.val_inv {P : Program} {φ : Phi} {D : Nat → Prop} {w : World} {n : Nat} {xs : List PV} {v : Value} (h : RV P φ D w (.val n xs) v) (hn : 0 < n) : ∃ (a : Addr) (c : Nat) (f : Nat → Value), v = .slice (some a) n c ∧ D a.block ∧ (∀ j x, xs[j]? = some x → w.cell? (a.add j) = some (f j)) ∧ ∀ j x, xs[j]? = some x → RV P φ D w x (f j) := by
  cases h with
  | val hn' hd hc h => exact ⟨_, _, _, rfl, hd, hc, h⟩
  | val0 => omega
theorem RV.nil_inv {P : Program} {φ : Phi} {D : Nat → Prop} {w : World} {xs : List PV} {v : Value} (h : RV P φ D w (.val 0 xs) v) : ∃ (a : Option Addr) (c : Nat), v = .slice a 0 c := by
  cases h
  · exact ⟨_, _, rfl⟩
  · exact ⟨_, _, rfl⟩
theorem DiskRead_ok (d : Dk) (i : Nat) (hk : dkOk d = true) (hw : d.waits = []) (hi : i ≤ 41) : Ok Tryz.prog 40 [vDk d, vI i] (vS (d.cells.getD i ByteArray.empty)) [] := by
  intro D w vs hD hg ha
  have hlen : d.cells.length = 42 := by
    unfold dkOk at hk
    rw [Bool.and_eq_true, Bool.and_eq_true] at hk
    exact (of_decide_eq_true hk.1.1).1
  obtain ⟨hsz, hv⟩ := ha
  have h0 := hv 0 (vDk d) rfl
  have h1 := hv 1 (vI i) rfl
  obtain ⟨v0, v1, rfl⟩ : ∃ v0 v1, vs = #[v0, v1] := by
    rcases vs with ⟨_ | ⟨a, _ | ⟨b, _ | ⟨c, l⟩⟩⟩⟩ <;> simp at hsz
    exact ⟨a, b, rfl⟩
  simp at h0 h1
  cases h1
  have ha0 : RVs Tryz.prog qi D w [vDk d] #[v0] := ⟨rfl, fun j x hj => by
    cases j with
    | zero => simp at hj; subst hj; exact h0
    | succ j => simp at hj⟩
  have ha1 : RVs Tryz.prog qi D w [vI i] #[.int .i64 i] := ⟨rfl, fun j x hj => by
    cases j with
    | zero => simp at hj; subst hj; exact .b _
    | succ j => simp at hj⟩
  have hO := fun w1 hb => Ok.at_below (w1 := w1) (CJ d (by omega) (by rw [hw]; exact Nat.zero_le _)) hD hg hb ha0
  have hI := fun w1 hb => Ok.at_below (w1 := w1) (xx i) hD hg hb ha1
  rw [hk] at hO
  rw [decide_eq_true (by omega : 0 ≤ (i : Int) ∧ (i : Int) ≤ 41)] at hI
  obtain ⟨cells, waits, room, left⟩ := d
  dsimp only at hw hlen
  subst hw
  cases h0 with
  | agg hl h =>
    rename_i us
    obtain ⟨u0, u1, u2, u3, rfl⟩ : ∃ u0 u1 u2 u3, us = #[u0, u1, u2, u3] := by
      rcases us with ⟨_ | ⟨a, _ | ⟨b, _ | ⟨c, _ | ⟨e, _ | ⟨f, l⟩⟩⟩⟩⟩⟩ <;> simp at hl
      exact ⟨a, b, c, e, rfl⟩
    have g0 := h 0 _ rfl
    have g1 := h 1 _ rfl
    have g2 := h 2 _ rfl
    have g3 := h 3 _ rfl
    simp at g0 g1 g2 g3
    cases g2
    cases g3
    obtain ⟨a, c0, f, rfl, hd, hc, hx⟩ := RV.val_inv g0 (by omega)
    obtain ⟨A1, c1, rfl⟩ := RV.nil_inv g1
    have hget : (cells.map vS)[i]? = some (vS (cells.getD i ByteArray.empty)) := by
      rw [List.getElem?_map, List.getElem?_eq_getElem (by omega), List.getD_eq_getElem?_getD, List.getElem?_eq_getElem (by omega)]
      rfl
    have hci := hc i _ hget
    have hxi := hx i _ hget
    generalize f i = y at hci hxi
    cases hxi
    rw [hlen] at hO ⊢
    refine (diskRead_raw a A1 c0 c1 42 room left i _ w (by omega) (by omega) hO hI (hD _ hd) hci).mono fun e w' ⟨he, hb⟩ => ?_
    obtain ⟨t, m⟩ := MR.below hD hg hb
    exact ⟨_, qi, D, he, t, m, .b _⟩
end
end Go.Proofs.YtknciobaifdafaaGreatDoor.T
