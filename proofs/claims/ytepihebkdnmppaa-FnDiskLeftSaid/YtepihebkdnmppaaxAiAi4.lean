/- Walks of the seat's functions, written by a program of this session (xprint.py) with the kit's printer: each call comes to just what its Lean function says. -/
import Derived.Test.YtepihebkdnmppaaxAiAi0
import Derived.Test.YtepihebkdnmppaaxAiAi2
import Derived.Test.YtepihebkdnmppaaxAiAi3
namespace Go.Proofs.Ytepihebkdnmppaa.Ai
open Go.RowKit Go.Proofs.YtepihebkdnmppaaV.PrintWords Go.Proofs.YtepihebkdnmppaaV.PrintLast Go.Proofs.YtepihebkdnmppaaV.PrintMore
attribute [local go_sem] max2_int min2_int max_two min_two max_three min_three max_four min_four   -- for this text's walks alone
attribute [local go_sem high] World.zS
set_option linter.unusedVariables false
set_option linter.unusedSimpArgs false

/-! ### spec_l15Disk: function 65 -/
mutual
def spec_l15Disk.l0 : Nat → Int → List Int → Int → List ByteArray → List (S70) → Int → Int → Option (List ByteArray × (List (S70)) × Int × Int × Int)
  | 0, _, _, _, _, _, _, _ => none
  | k + 1, x4, x1000, x1001, x198000, x198001, x198002, x198003 => if x4 > 0 then ((spec_l1Rd_pick.f k x1000 x1001 42).bind fun bt200 => ((spec_l1Rd_one.f k x1000 bt200.2 (([0, 1, 2, 3, 21, 22, 23, 41, bt200.1] : List Int))).bind fun bt205 => ((spec_l15PageText.f k x1000 bt205.2).bind fun bt207 => ((spec_l7Write.f k x198000 x198001 x198002 x198003 bt205.1 bt207.1).bind fun bt209 => (spec_l15Disk.l0 k (wrap64 (x4 - 1)) x1000 bt207.2 bt209.1 bt209.2.1 bt209.2.2.1 bt209.2.2.2.1))))) else ((spec_l1Rd_pick.f k x1000 x1001 2).bind fun bt218 => (if bt218.1 = 0 then ((spec_l7Sync.f k x198000 x198001 x198002 x198003).bind fun bt220 => (spec_l15Disk.j1 k x1000 bt218.2 bt220.1 bt220.2.1 bt220.2.2.1 bt220.2.2.2)) else (spec_l15Disk.j1 k x1000 bt218.2 x198000 x198001 x198002 x198003)))
def spec_l15Disk.j1 : Nat → List Int → Int → List ByteArray → List (S70) → Int → Int → Option (List ByteArray × (List (S70)) × Int × Int × Int)
  | 0, _, _, _, _, _, _ => none
  | k + 1, x1000, x1001, x198000, x198001, x198002, x198003 => (spec_l1Rd_pick.f k x1000 x1001 6).bind fun bt228 => (spec_l15Disk.l1 k bt228.1 x1000 bt228.2 x198000 x198001 x198002 x198003)
def spec_l15Disk.l1 : Nat → Int → List Int → Int → List ByteArray → List (S70) → Int → Int → Option (List ByteArray × (List (S70)) × Int × Int × Int)
  | 0, _, _, _, _, _, _, _ => none
  | k + 1, x5, x1000, x1001, x198000, x198001, x198002, x198003 => if x5 > 0 then ((spec_l1Rd_pick.f k x1000 x1001 42).bind fun bt240 => ((spec_l1Rd_one.f k x1000 bt240.2 (([0, 1, 2, 22, bt240.1] : List Int))).bind fun bt245 => ((spec_l15PageText.f k x1000 bt245.2).bind fun bt247 => ((spec_l7Write.f k x198000 x198001 x198002 x198003 bt245.1 bt247.1).bind fun bt249 => (spec_l15Disk.l1 k (wrap64 (x5 - 1)) x1000 bt247.2 bt249.1 bt249.2.1 bt249.2.2.1 bt249.2.2.2.1))))) else ((spec_l1Rd_one.f k x1000 x1001 (([(-1), (-1), (-1), 0, 1, 3] : List Int))).bind fun bt233 => ((spec_l1Rd_one.f k x1000 bt233.2 (([(-1), (-1), (-1), 0, 1, 2] : List Int))).bind fun bt238 => (some (x198000, x198001, bt233.1, bt238.1, bt238.2))))
end
def spec_l15Disk.f (k : Nat) (s0_0 : List Int) (s0_1 : Int) : Option (List ByteArray × (List (S70)) × Int × Int × Int) := (spec_DiskNew.f).bind fun bt189 => ((spec_l1Rd_pick.f k s0_0 s0_1 6).bind fun bt198 => (spec_l15Disk.l0 k bt198.1 s0_0 bt198.2 bt189.1 bt189.2.1 bt189.2.2.1 bt189.2.2.2))
theorem spec_l15Disk.mono_l : ∀ k, (∀ y0 y1 y2 y3 y4 y5 y6, LeO (spec_l15Disk.l0 k y0 y1 y2 y3 y4 y5 y6) (spec_l15Disk.l0 (k + 1) y0 y1 y2 y3 y4 y5 y6)) ∧ (∀ y0 y1 y2 y3 y4 y5, LeO (spec_l15Disk.j1 k y0 y1 y2 y3 y4 y5) (spec_l15Disk.j1 (k + 1) y0 y1 y2 y3 y4 y5)) ∧ (∀ y0 y1 y2 y3 y4 y5 y6, LeO (spec_l15Disk.l1 k y0 y1 y2 y3 y4 y5 y6) (spec_l15Disk.l1 (k + 1) y0 y1 y2 y3 y4 y5 y6))
  | 0 => ⟨fun _ _ _ _ _ _ _ r h => by simp [spec_l15Disk.l0] at h, fun _ _ _ _ _ _ r h => by simp [spec_l15Disk.j1] at h, fun _ _ _ _ _ _ _ r h => by simp [spec_l15Disk.l1] at h⟩
  | k + 1 => by
    obtain ⟨ih0, ih1, ih2⟩ := spec_l15Disk.mono_l k
    refine ⟨?_, ?_, ?_⟩
    · intro y0 y1 y2 y3 y4 y5 y6
      unfold spec_l15Disk.l0
      repeat' first
      | (with_reducible exact ih0 _ _ _ _ _ _ _)
      | (with_reducible exact ih1 _ _ _ _ _ _)
      | (with_reducible exact ih2 _ _ _ _ _ _ _)
      | (with_reducible exact spec_l15PageText.mono _ _ _)
      | (with_reducible exact spec_l1Rd_one.mono _ _ _ _)
      | (with_reducible exact spec_l1Rd_pick.mono _ _ _ _)
      | (with_reducible exact spec_l7Sync.mono _ _ _ _ _)
      | (with_reducible exact spec_l7Write.mono _ _ _ _ _ _ _)
      | (with_reducible exact LeO.refl _)
      | (with_reducible exact LeO.none _)
      | (with_reducible refine LeO.ite ?_ ?_)
      | (with_reducible refine LeO.bind ?_ (fun _ => ?_))
      | exact ih0 _ _ _ _ _ _ _
      | exact ih1 _ _ _ _ _ _
      | exact ih2 _ _ _ _ _ _ _
      | exact spec_l15PageText.mono _ _ _
      | exact spec_l1Rd_one.mono _ _ _ _
      | exact spec_l1Rd_pick.mono _ _ _ _
      | exact spec_l7Sync.mono _ _ _ _ _
      | exact spec_l7Write.mono _ _ _ _ _ _ _
      | exact LeO.none _
      | refine LeO.ite ?_ ?_
      | refine LeO.bind ?_ (fun _ => ?_)
    · intro y0 y1 y2 y3 y4 y5
      unfold spec_l15Disk.j1
      repeat' first
      | (with_reducible exact ih0 _ _ _ _ _ _ _)
      | (with_reducible exact ih1 _ _ _ _ _ _)
      | (with_reducible exact ih2 _ _ _ _ _ _ _)
      | (with_reducible exact spec_l15PageText.mono _ _ _)
      | (with_reducible exact spec_l1Rd_one.mono _ _ _ _)
      | (with_reducible exact spec_l1Rd_pick.mono _ _ _ _)
      | (with_reducible exact spec_l7Sync.mono _ _ _ _ _)
      | (with_reducible exact spec_l7Write.mono _ _ _ _ _ _ _)
      | (with_reducible exact LeO.refl _)
      | (with_reducible exact LeO.none _)
      | (with_reducible refine LeO.ite ?_ ?_)
      | (with_reducible refine LeO.bind ?_ (fun _ => ?_))
      | exact ih0 _ _ _ _ _ _ _
      | exact ih1 _ _ _ _ _ _
      | exact ih2 _ _ _ _ _ _ _
      | exact spec_l15PageText.mono _ _ _
      | exact spec_l1Rd_one.mono _ _ _ _
      | exact spec_l1Rd_pick.mono _ _ _ _
      | exact spec_l7Sync.mono _ _ _ _ _
      | exact spec_l7Write.mono _ _ _ _ _ _ _
      | exact LeO.none _
      | refine LeO.ite ?_ ?_
      | refine LeO.bind ?_ (fun _ => ?_)
    · intro y0 y1 y2 y3 y4 y5 y6
      unfold spec_l15Disk.l1
      repeat' first
      | (with_reducible exact ih0 _ _ _ _ _ _ _)
      | (with_reducible exact ih1 _ _ _ _ _ _)
      | (with_reducible exact ih2 _ _ _ _ _ _ _)
      | (with_reducible exact spec_l15PageText.mono _ _ _)
      | (with_reducible exact spec_l1Rd_one.mono _ _ _ _)
      | (with_reducible exact spec_l1Rd_pick.mono _ _ _ _)
      | (with_reducible exact spec_l7Sync.mono _ _ _ _ _)
      | (with_reducible exact spec_l7Write.mono _ _ _ _ _ _ _)
      | (with_reducible exact LeO.refl _)
      | (with_reducible exact LeO.none _)
      | (with_reducible refine LeO.ite ?_ ?_)
      | (with_reducible refine LeO.bind ?_ (fun _ => ?_))
      | exact ih0 _ _ _ _ _ _ _
      | exact ih1 _ _ _ _ _ _
      | exact ih2 _ _ _ _ _ _ _
      | exact spec_l15PageText.mono _ _ _
      | exact spec_l1Rd_one.mono _ _ _ _
      | exact spec_l1Rd_pick.mono _ _ _ _
      | exact spec_l7Sync.mono _ _ _ _ _
      | exact spec_l7Write.mono _ _ _ _ _ _ _
      | exact LeO.none _
      | refine LeO.ite ?_ ?_
      | refine LeO.bind ?_ (fun _ => ?_)
theorem spec_l15Disk.mono : ∀ a0 a1 k, LeO (spec_l15Disk.f k a0 a1) (spec_l15Disk.f (k + 1) a0 a1) := by
  intro a0 a1 k
  obtain ⟨ih0, ih1, ih2⟩ := spec_l15Disk.mono_l k
  unfold spec_l15Disk.f
  repeat' first
      | (with_reducible exact ih0 _ _ _ _ _ _ _)
      | (with_reducible exact ih1 _ _ _ _ _ _)
      | (with_reducible exact ih2 _ _ _ _ _ _ _)
      | (with_reducible exact spec_l15PageText.mono _ _ _)
      | (with_reducible exact spec_l1Rd_one.mono _ _ _ _)
      | (with_reducible exact spec_l1Rd_pick.mono _ _ _ _)
      | (with_reducible exact spec_l7Sync.mono _ _ _ _ _)
      | (with_reducible exact spec_l7Write.mono _ _ _ _ _ _ _)
      | (with_reducible exact LeO.refl _)
      | (with_reducible exact LeO.none _)
      | (with_reducible refine LeO.ite ?_ ?_)
      | (with_reducible refine LeO.bind ?_ (fun _ => ?_))
      | exact ih0 _ _ _ _ _ _ _
      | exact ih1 _ _ _ _ _ _
      | exact ih2 _ _ _ _ _ _ _
      | exact spec_l15PageText.mono _ _ _
      | exact spec_l1Rd_one.mono _ _ _ _
      | exact spec_l1Rd_pick.mono _ _ _ _
      | exact spec_l7Sync.mono _ _ _ _ _
      | exact spec_l7Write.mono _ _ _ _ _ _ _
      | exact LeO.none _
      | refine LeO.ite ?_ ?_
      | refine LeO.bind ?_ (fun _ => ?_)
def spec_l15Disk.T5 : Bool × List (List Nat × List Nat) := (true, [([], []), ([], []), ([], []), ([2], [2]), ([3], [3]), ([1, 4, 3], [1, 4]), ([], []), ([6, 5], [6]), ([0, 5, 7, 7], [0, 5, 7]), ([8], [8]), ([9], [9]), ([9], [9]), ([10, 8, 0, 1, 2, 3, 4, 5, 6, 7, 8, 9, 10], [10])])
def spec_l15Disk.B5 : List Nat := [0, 0, 0, 4, 12, 30, 0, 126, 255, 511, 1023, 1023, 2047]
theorem spec_l15Disk.tab5 : rtab .any (opsOf Try.f65 5) = spec_l15Disk.T5 := by kernel_rfl
theorem spec_l15Disk.bits5 : waitsOk spec_l15Disk.T5.2 spec_l15Disk.B5 = true := by kernel_rfl
def spec_l15Disk.T11 : Bool × List (List Nat × List Nat) := (true, [([], []), ([], []), ([], []), ([2], [2]), ([3], [3]), ([1, 4, 3], [1, 4]), ([], []), ([6, 5], [6]), ([0, 5, 7, 7], [0, 5, 7]), ([8], [8]), ([9], [9]), ([9], [9]), ([10, 8, 0, 1, 2, 3, 4, 5, 6, 7, 8, 9, 10], [10])])
def spec_l15Disk.B11 : List Nat := [0, 0, 0, 4, 12, 30, 0, 126, 255, 511, 1023, 1023, 2047]
theorem spec_l15Disk.tab11 : rtab .any (opsOf Try.f65 11) = spec_l15Disk.T11 := by kernel_rfl
theorem spec_l15Disk.bits11 : waitsOk spec_l15Disk.T11.2 spec_l15Disk.B11 = true := by kernel_rfl
set_option maxHeartbeats 8000000 in
set_option maxRecDepth 100000 in
theorem spec_l15Disk.calls (k : Nat) (g : Nat) (s0_0 : List Int) (s0_1 : Int) (r1 : List ByteArray) (r2 : List (S70)) (r3 : Int) (r4 : Int) (r5 : Int) (w0 w : World) (hI : IsS83 w0 w g s0_0 s0_1) (hB : Below w0.heap.size w0 w) (h : spec_l15Disk.f k s0_0 s0_1 = some (r1, r2, r3, r4, r5)) :
    Calls Try.prog 65 #[.pointer (some ⟨g, 0, none⟩)] w fun e w' => ∃ v0_ v1_ : Value, e = .returned (.agg #[v0_, v1_, .int .i64 r3, .int .i64 r4]) ∧ Kd.R Kd.string 9 w' w.heap.size (fun _ => True) v0_ r1 ∧ Kd.R k70 70 w' w.heap.size (fun _ => True) v1_ r2 ∧ IsS83 w0 w' g s0_0 r5 ∧ Below w0.heap.size w0 w' ∧ KeepBut w w' g none := by
  have hu26 := Try.underlying26
  have HI0 := Aside0.mk hI
  have HK := Aside0.mk (KeepBut.refl w g none)
  have HL := Aside0.mk hB.size
  clear hI
  have HW0 := Aside0.mk hB.size
  have HB := Aside0.mk hB
  clear hB
  have H : ((spec_DiskNew.f).bind fun bt189 => ((spec_l1Rd_pick.f k s0_0 s0_1 6).bind fun bt198 => (spec_l15Disk.l0 k bt198.1 s0_0 bt198.2 bt189.1 bt189.2.1 bt189.2.2.1 bt189.2.2.2))) = some (r1, r2, r3, r4, r5) := h
  clear h
  replace H := Option.bind_eq_some_iff.mp H
  obtain ⟨⟨t189, t192, t195, t196⟩, A20, H⟩ := H
  replace H : ((spec_l1Rd_pick.f k s0_0 s0_1 6).bind fun bt198 => (spec_l15Disk.l0 k bt198.1 s0_0 bt198.2 t189 t192 t195 t196)) = some (r1, r2, r3, r4, r5) := H
  have A2 := Aside0.mk A20
  clear A20
  replace H := Option.bind_eq_some_iff.mp H
  obtain ⟨⟨t198, t199⟩, A30, H⟩ := H
  replace H : (spec_l15Disk.l0 k t198 s0_0 t199 t189 t192 t195 t196) = some (r1, r2, r3, r4, r5) := H
  have A3 := Aside0.mk A30
  clear A30
  have H' := Aside0.mk H
  clear H
  go_enter Try.func65, Try.ntmps65
  go_wp2_with (first | ((with_reducible refine zA (N := 2) rfl ?_); refine qU ?hg (N := 2) ?hd (cs := #[.slice none 0 0, .slice none 0 0, .int .i64 0, .int .i64 0]) (t := 26) ?hr ?_; (case hd => rfl); (case hg => rfl); (case hr => first | (go_simp; done) | (go_simp; rfl)); intro gb188 hg w4 hbox hb; have n0_ := Aside0.mk (IsS83.below (by repeat (first | (with_reducible first | exact HI0.out | apply IsS83.alloc | apply IsS83.drewN | apply IsS83.drew | apply IsS83.set_1) | exact HI0.out)) hb); have n1_ := Aside0.mk (KeepBut.trans (by repeat (first | (with_reducible first | exact HK.out | apply KeepBut.set_ | apply qM | apply qP | apply qN) | exact HK.out)) (KeepBut.of_below hb g none) (.inl rfl)); have n2_ := Aside0.mk (qL (by repeat (first | (with_reducible first | exact HB.out | apply qF | apply qB | apply qE | refine qD ?_ (IsS83.ge HI0.out)) | exact HB.out)) hb); have n3_ := Aside0.mk (hbox); have n4_ := Aside0.mk ((by rw [hg]; exact (zG (w := w) (g := g) (row := none) (by repeat (first | (with_reducible first | exact HK.out | apply KeepBut.set_ | apply qM | apply qP | apply qN) | exact HK.out))) : w.heap.size ≤ gb188)); have n5_ := Aside0.mk ((Nat.le_trans HW0.out (by rw [hg]; exact (zG (w := w) (g := g) (row := none) (by repeat (first | (with_reducible first | exact HK.out | apply KeepBut.set_ | apply qM | apply qP | apply qN) | exact HK.out))) : w.heap.size ≤ gb188) : w0.heap.size ≤ gb188)); have n6_ := Aside0.mk ((by rw [hg]; exact Nat.ne_of_lt (IsS83.lt (show IsS83 w0 _ g s0_0 s0_1 from by repeat (first | (with_reducible first | exact HI0.out | apply IsS83.alloc | apply IsS83.drewN | apply IsS83.drew | apply IsS83.set_1) | exact HI0.out))) : g ≠ gb188)); have n7_ := Aside0.mk ((by rw [hg]; exact Nat.ne_of_gt (IsS83.lt (show IsS83 w0 _ g s0_0 s0_1 from by repeat (first | (with_reducible first | exact HI0.out | apply IsS83.alloc | apply IsS83.drewN | apply IsS83.drew | apply IsS83.set_1) | exact HI0.out))) : gb188 ≠ g)); clear HI0; clear HK; clear HB; have HI0 := n0_; have HK := n1_; have HB := n2_; have BK188 := n3_; have GW188 := n4_; have GE188 := n5_; have NB0_188 := n6_; have NB188_0 := n7_; clear n0_ n1_ n2_ n3_ n4_ n5_ n6_ n7_; clear hb hbox hg) | ((with_reducible refine qV (f := 80) rfl ?_); refine zL (some 6) rfl rfl Try.func80 (by kernel_rfl) rfl #[] rfl (by (try simp only [List.map_toArray, List.map_cons, List.map_nil]); first | done | rfl | (simp only [List.length_drop, List.length_take]; rfl)) ?_; (with_reducible refine (spec_DiskNew.calls  t189 t192 t195 t196 _ A2.out).mono ?_); rintro e w5 ⟨v190, v193, rfl, ho0, ho1, hb⟩; refine ⟨_, rfl, ?_⟩; have n0_ := Aside0.mk (Kd.zJ ho0 (zG (w := w) (g := g) (row := none) (by repeat (first | (with_reducible first | exact HK.out | apply KeepBut.set_ | apply qM | apply qP | apply qN | refine qQ ?_ GW188.out _) | exact HK.out)))); have n1_ := Aside0.mk (Kd.zJ ho1 (zG (w := w) (g := g) (row := none) (by repeat (first | (with_reducible first | exact HK.out | apply KeepBut.set_ | apply qM | apply qP | apply qN | refine qQ ?_ GW188.out _) | exact HK.out)))); have n2_ := Aside0.mk (IsS83.below (by repeat (first | (with_reducible first | exact HI0.out | apply IsS83.alloc | apply IsS83.drewN | apply IsS83.drew | apply IsS83.set_1 | refine IsS83.far ?_ NB0_188.out _) | exact HI0.out)) hb); have n3_ := Aside0.mk (qJ (g := gb188) (o := .cells #[.slice none 0 0, .slice none 0 0, .int .i64 0, .int .i64 0] 26 (0, 0)) (bw_ BK188.out) hb); have n4_ := Aside0.mk (KeepBut.trans (by repeat (first | (with_reducible first | exact HK.out | apply KeepBut.set_ | apply qM | apply qP | apply qN | refine qQ ?_ GW188.out _) | exact HK.out)) (KeepBut.of_below hb g none) (.inl rfl)); have n5_ := Aside0.mk (qL (by repeat (first | (with_reducible first | exact HB.out | apply qF | apply qB | apply qE | refine qD ?_ (IsS83.ge HI0.out) | refine qD ?_ GE188.out) | exact HB.out)) hb); clear HI0; clear BK188; clear HK; clear HB; have HO191 := n0_; have HO194 := n1_; have HI0 := n2_; have BK188 := n3_; have HK := n4_; have HB := n5_; clear n0_ n1_ n2_ n3_ n4_ n5_; (try clear hb); (try clear hb2); (try clear hk); (try clear hi); (try clear ho0); (try clear ho1)) | ((with_reducible refine zA (N := 3) rfl ?_); refine qU ?hg (N := 3) ?hd (cs := #[.slice none 0 0, .slice none 0 0, .int .i64 0, .int .i64 0]) (t := 26) ?hr ?_; (case hd => rfl); (case hg => rfl); (case hr => first | (go_simp; done) | (go_simp; rfl)); intro gb197 hg w6 hbox hb; have n0_ := Aside0.mk (Kd.qZ (rw_ HO191.out) hb); have n1_ := Aside0.mk (Kd.qZ (rw_ HO194.out) hb); have n2_ := Aside0.mk (IsS83.below (by repeat (first | (with_reducible first | exact HI0.out | apply IsS83.alloc | apply IsS83.drewN | apply IsS83.drew | apply IsS83.set_1 | refine IsS83.far ?_ NB0_188.out _) | exact HI0.out)) hb); have n3_ := Aside0.mk (qJ (g := gb188) (o := .cells #[.slice none 0 0, .slice none 0 0, .int .i64 0, .int .i64 0] 26 (0, 0)) (bw_ BK188.out) hb); have n4_ := Aside0.mk (KeepBut.trans (by repeat (first | (with_reducible first | exact HK.out | apply KeepBut.set_ | apply qM | apply qP | apply qN | refine qQ ?_ GW188.out _) | exact HK.out)) (KeepBut.of_below hb g none) (.inl rfl)); have n5_ := Aside0.mk (qL (by repeat (first | (with_reducible first | exact HB.out | apply qF | apply qB | apply qE | refine qD ?_ (IsS83.ge HI0.out) | refine qD ?_ GE188.out) | exact HB.out)) hb); have n6_ := Aside0.mk (hbox); have n7_ := Aside0.mk ((by rw [hg]; exact (zG (w := w) (g := g) (row := none) (by repeat (first | (with_reducible first | exact HK.out | apply KeepBut.set_ | apply qM | apply qP | apply qN | refine qQ ?_ GW188.out _) | exact HK.out))) : w.heap.size ≤ gb197)); have n8_ := Aside0.mk ((Nat.le_trans HW0.out (by rw [hg]; exact (zG (w := w) (g := g) (row := none) (by repeat (first | (with_reducible first | exact HK.out | apply KeepBut.set_ | apply qM | apply qP | apply qN | refine qQ ?_ GW188.out _) | exact HK.out))) : w.heap.size ≤ gb197) : w0.heap.size ≤ gb197)); have n9_ := Aside0.mk ((by rw [hg]; exact Nat.ne_of_lt (zF (g := gb188) (o := .cells #[.slice none 0 0, .slice none 0 0, .int .i64 0, .int .i64 0] 26 (0, 0)) (bw_ BK188.out)) : gb188 ≠ gb197)); have n10_ := Aside0.mk ((by rw [hg]; exact Nat.ne_of_gt (zF (g := gb188) (o := .cells #[.slice none 0 0, .slice none 0 0, .int .i64 0, .int .i64 0] 26 (0, 0)) (bw_ BK188.out)) : gb197 ≠ gb188)); have n11_ := Aside0.mk ((by rw [hg]; exact Nat.ne_of_lt (IsS83.lt (show IsS83 w0 _ g s0_0 s0_1 from by repeat (first | (with_reducible first | exact HI0.out | apply IsS83.alloc | apply IsS83.drewN | apply IsS83.drew | apply IsS83.set_1 | refine IsS83.far ?_ NB0_188.out _) | exact HI0.out))) : g ≠ gb197)); have n12_ := Aside0.mk ((by rw [hg]; exact Nat.ne_of_gt (IsS83.lt (show IsS83 w0 _ g s0_0 s0_1 from by repeat (first | (with_reducible first | exact HI0.out | apply IsS83.alloc | apply IsS83.drewN | apply IsS83.drew | apply IsS83.set_1 | refine IsS83.far ?_ NB0_188.out _) | exact HI0.out))) : gb197 ≠ g)); clear HO191; clear HO194; clear HI0; clear BK188; clear HK; clear HB; have HO191 := n0_; have HO194 := n1_; have HI0 := n2_; have BK188 := n3_; have HK := n4_; have HB := n5_; have BK197 := n6_; have GW197 := n7_; have GE197 := n8_; have NB188_197 := n9_; have NB197_188 := n10_; have NB0_197 := n11_; have NB197_0 := n12_; clear n0_ n1_ n2_ n3_ n4_ n5_ n6_ n7_ n8_ n9_ n10_ n11_ n12_; clear hb hbox hg; obtain ⟨Ao7, co7, eo7⟩ := Kd.zE HO191.out; subst eo7; have hnb8 := NB197_188.out; have hnc8 := NB188_197.out; have hnb9 := NB197_0.out; have hnc9 := NB0_197.out; have hcz10_0 : w6.cell? ⟨gb197, 0, none⟩ = some (.slice none 0 0) := (qA BK197.out 0).trans rfl; have hcz10_1 : w6.cell? ⟨gb197, 1, none⟩ = some (.slice none 0 0) := (qA BK197.out 1).trans rfl; have hcz10_2 : w6.cell? ⟨gb197, 2, none⟩ = some (.int .i64 0) := (qA BK197.out 2).trans rfl; have hcz10_3 : w6.cell? ⟨gb197, 3, none⟩ = some (.int .i64 0) := (qA BK197.out 3).trans rfl; have hfz10_0 := qC BK197.out 0; have hfz10_1 := qC BK197.out 1; have hfz10_2 := qC BK197.out 2; have hfz10_3 := qC BK197.out 3; obtain ⟨Ao11, co11, eo11⟩ := Kd.zE HO194.out; subst eo11) | ((with_reducible refine qV (f := 34) rfl ?_); refine zL (some 8) rfl rfl Try.func34 (by kernel_rfl) rfl #[.pointer (some ⟨g, 0, none⟩), .int .i64 6] rfl (by (try simp only [List.map_toArray, List.map_cons, List.map_nil]); first | done | rfl | (simp only [List.length_drop, List.length_take]; rfl)) ?_; (with_reducible refine (spec_l1Rd_pick.calls k g s0_0 s0_1 6 t198 t199 w0 _ ?side1 ?side2 A3.out).mono ?_); (case side1 => repeat (first | (with_reducible first | exact HI0.out | apply IsS83.alloc | apply IsS83.drewN | apply IsS83.drew | apply IsS83.set_1 | refine IsS83.far ?_ NB0_188.out _ | refine IsS83.far ?_ NB0_197.out _) | exact HI0.out)); (case side2 => repeat (first | (with_reducible first | exact HB.out | apply qF | apply qB | apply qE | refine qD ?_ (IsS83.ge HI0.out) | refine qD ?_ GE188.out | refine qD ?_ GE197.out) | exact HB.out)); rintro e w12 ⟨rfl, hi, hb, hk⟩; refine ⟨_, rfl, ?_⟩; have n0_ := Aside0.mk (KeepBut.blk hk (g' := gb188) (o := .cells #[.slice none 0 0, .slice none 0 0, .int .i64 0, .int .i64 0] 26 (0, 0)) (by (with_reducible repeat (first | refine qH ?_ _ | refine qI ?_ | refine qG ?_ _)); refine qR ?_ NB188_197.out _; (with_reducible repeat (first | refine qH ?_ _ | refine qI ?_ | refine qG ?_ _)); refine qR ?_ NB188_197.out _; (with_reducible repeat (first | refine qH ?_ _ | refine qI ?_ | refine qG ?_ _)); refine qR ?_ NB188_197.out _; (with_reducible repeat (first | refine qH ?_ _ | refine qI ?_ | refine qG ?_ _)); refine qR ?_ NB188_197.out _; (with_reducible repeat (first | refine qH ?_ _ | refine qI ?_ | refine qG ?_ _)); exact BK188.out) NB188_0.out (by simp)); have n1_ := Aside0.mk (Kd.qS (Kd.zM (IsS83.apart (show IsS83 w0 _ g s0_0 s0_1 from by repeat (first | (with_reducible first | exact HI0.out | apply IsS83.alloc | apply IsS83.drewN | apply IsS83.drew | apply IsS83.set_1 | refine IsS83.far ?_ NB0_188.out _ | refine IsS83.far ?_ NB0_197.out _) | exact HI0.out)) (rw_ ((Kd.qS (Kd.R_far (p := ⟨gb197, 3, none⟩) (Kd.R_far (p := ⟨gb197, 2, none⟩) (Kd.R_far (p := ⟨gb197, 1, none⟩) (Kd.R_far (p := ⟨gb197, 0, none⟩) (Kd.qW HO191.out BK197.out (by decide)) (fun _ hk => hk.2) (.slice Ao7 t189.length co7)) (fun _ hk => hk.2) (.slice Ao11 t192.length co11)) (fun _ hk => hk.2) (.int .i64 t195)) (fun _ hk => hk.2) (.int .i64 t196)) (fun _ h_ => h_.1)))) (by decide)) hk (fun _ h => h.2)) (fun _ h => h.1)); have n2_ := Aside0.mk (Kd.qS (Kd.zM (IsS83.apart (show IsS83 w0 _ g s0_0 s0_1 from by repeat (first | (with_reducible first | exact HI0.out | apply IsS83.alloc | apply IsS83.drewN | apply IsS83.drew | apply IsS83.set_1 | refine IsS83.far ?_ NB0_188.out _ | refine IsS83.far ?_ NB0_197.out _) | exact HI0.out)) (rw_ ((Kd.qS (Kd.R_far (p := ⟨gb197, 3, none⟩) (Kd.R_far (p := ⟨gb197, 2, none⟩) (Kd.R_far (p := ⟨gb197, 1, none⟩) (Kd.R_far (p := ⟨gb197, 0, none⟩) (Kd.qW HO194.out BK197.out (by decide)) (fun _ hk => hk.2) (.slice Ao7 t189.length co7)) (fun _ hk => hk.2) (.slice Ao11 t192.length co11)) (fun _ hk => hk.2) (.int .i64 t195)) (fun _ hk => hk.2) (.int .i64 t196)) (fun _ h_ => h_.1)))) (by decide)) hk (fun _ h => h.2)) (fun _ h => h.1)); have n3_ := Aside0.mk (KeepBut.blk hk (g' := gb197) (o := .cells #[.slice Ao7 t189.length co7, .slice Ao11 t192.length co11, .int .i64 t195, .int .i64 t196] 26 (0, 0)) (by (with_reducible repeat (first | refine qH ?_ _ | refine qI ?_ | refine qG ?_ _)); refine qO (cs := #[.slice Ao7 t189.length co7, .slice Ao11 t192.length co11, .int .i64 t195, .int .i64 0]) ?_ 3 _ rfl; (with_reducible repeat (first | refine qH ?_ _ | refine qI ?_ | refine qG ?_ _)); refine qO (cs := #[.slice Ao7 t189.length co7, .slice Ao11 t192.length co11, .int .i64 0, .int .i64 0]) ?_ 2 _ rfl; (with_reducible repeat (first | refine qH ?_ _ | refine qI ?_ | refine qG ?_ _)); refine qO (cs := #[.slice Ao7 t189.length co7, .slice none 0 0, .int .i64 0, .int .i64 0]) ?_ 1 _ rfl; (with_reducible repeat (first | refine qH ?_ _ | refine qI ?_ | refine qG ?_ _)); refine qO (cs := #[.slice none 0 0, .slice none 0 0, .int .i64 0, .int .i64 0]) ?_ 0 _ rfl; (with_reducible repeat (first | refine qH ?_ _ | refine qI ?_ | refine qG ?_ _)); exact BK197.out) NB197_0.out (by simp)); have n4_ := Aside0.mk (KeepBut.trans (by repeat (first | (with_reducible first | exact HK.out | apply KeepBut.set_ | apply qM | apply qP | apply qN | refine qQ ?_ GW188.out _ | refine qQ ?_ GW197.out _) | exact HK.out)) hk (.inl rfl)); have n5_ := Aside0.mk (hb); have n6_ := Aside0.mk (hi); clear BK188; clear HO191; clear HO194; clear BK197; clear HK; clear HB; clear HI0; have BK188 := n0_; have HO191 := n1_; have HO194 := n2_; have BK197 := n3_; have HK := n4_; have HB := n5_; have HI0 := n6_; clear n0_ n1_ n2_ n3_ n4_ n5_ n6_; (try clear hb); (try clear hb2); (try clear hk); (try clear hi)))
  go_loopg [4] k (fun kq v4 w' => ∃ (x4_1 : Int) (x1001_1 : Int) (x198000_1 : List ByteArray) (x198001_1 : List (S70)) (x198002_1 : Int) (x198003_1 : Int) (u198000 : Value) (u198001 : Value), v4 = .int .i64 x4_1 ∧ Aside0 (spec_l15Disk.l0 kq x4_1 s0_0 x1001_1 x198000_1 x198001_1 x198002_1 x198003_1 = some (r1, r2, r3, r4, r5)) ∧ Aside0 (kq ≤ k) ∧ Aside0 (Kd.R Kd.string 9 w' w.heap.size (fun _ => True) u198000 x198000_1) ∧ Aside0 (Kd.R k70 70 w' w.heap.size (fun _ => True) u198001 x198001_1) ∧ Aside0 (w'.heap[gb188]? = some (.cells #[(.slice none 0 0), (.slice none 0 0), .int .i64 0, .int .i64 0] 26 (0, 0))) ∧ Aside0 (w'.heap[gb197]? = some (.cells #[u198000, u198001, .int .i64 x198002_1, .int .i64 x198003_1] 26 (0, 0))) ∧ Aside0 (IsS83 w0 w' g s0_0 x1001_1) ∧ Aside0 (KeepBut w w' g none) ∧ Aside0 (Below w0.heap.size w0 w'))
  case atStart => exact ⟨(t198), (t199), (t189), (t192), (t195), (t196), (.slice Ao7 t189.length co7), (.slice Ao11 t192.length co11), (by first | rfl | (simp; done) | (simp [*]; done)), H', ⟨Nat.le_refl _⟩, ⟨by (with_reducible repeat (first | apply Kd.zI | apply Kd.zH | apply Kd.zD)); exact HO191.out⟩, ⟨by (with_reducible repeat (first | apply Kd.zI | apply Kd.zH | apply Kd.zD)); exact HO194.out⟩, ⟨by (with_reducible repeat (first | refine qH ?_ _ | refine qI ?_ | refine qG ?_ _)); exact BK188.out⟩, ⟨by (with_reducible repeat (first | refine qH ?_ _ | refine qI ?_ | refine qG ?_ _)); exact BK197.out⟩, ⟨by repeat (first | (with_reducible first | exact HI0.out | apply IsS83.alloc | apply IsS83.drewN | apply IsS83.drew | apply IsS83.set_1 | refine IsS83.far ?_ NB0_188.out _ | refine IsS83.far ?_ NB0_197.out _) | exact HI0.out)⟩, ⟨by repeat (first | (with_reducible first | exact HK.out | apply KeepBut.set_ | apply qM | apply qP | apply qN | refine qQ ?_ GW188.out _ | refine qQ ?_ GW197.out _) | exact HK.out)⟩, ⟨by repeat (first | (with_reducible first | exact HB.out | apply qF | apply qB | apply qE | refine qD ?_ (IsS83.ge HI0.out) | refine qD ?_ GE188.out | refine qD ?_ GE197.out) | exact HB.out)⟩⟩
  case round =>
    clear H'
    try clear p2
    try clear c3
    try clear c6
    try clear c8
    try clear c9
    try clear hcz10_0
    try clear hcz10_1
    try clear hcz10_2
    try clear hcz10_3
    try clear hfz10_0
    try clear hfz10_1
    try clear hfz10_2
    try clear hfz10_3
    obtain ⟨x4_1, x1001_1, x198000_1, x198001_1, x198002_1, x198003_1, u198000, u198001, rfl, HA, HK1, HO_198000, HO_198001, BK188, BK197, HI0, HK, HB⟩ := hrel
    cases gk with
    | zero => exact absurd HA.out (by simp [spec_l15Disk.l0])
    | succ k1 =>
      have H := HA.out
      clear HA
      simp only [spec_l15Disk.l0] at H
      by_cases c13 : x4_1 > 0
      · rw [if_pos c13] at H
        have c13b0 : decide (0 < x4_1) = true := decide_eq_true c13
        clear c13
        replace H := Option.bind_eq_some_iff.mp H
        obtain ⟨⟨t200, t201⟩, A140, H⟩ := H
        replace H : ((spec_l1Rd_one.f k1 s0_0 t201 (([0, 1, 2, 3, 21, 22, 23, 41, t200] : List Int))).bind fun bt205 => ((spec_l15PageText.f k1 s0_0 bt205.2).bind fun bt207 => ((spec_l7Write.f k1 x198000_1 x198001_1 x198002_1 x198003_1 bt205.1 bt207.1).bind fun bt209 => (spec_l15Disk.l0 k1 (wrap64 (x4_1 - 1)) s0_0 bt207.2 bt209.1 bt209.2.1 bt209.2.2.1 bt209.2.2.2.1)))) = some (r1, r2, r3, r4, r5) := H
        have A14 := Aside0.mk A140
        clear A140
        obtain ⟨y202, hy202⟩ : ∃ y_ : List Int, y_ = (([0, 1, 2, 3, 21, 22, 23, 41, t200] : List Int)) := ⟨_, rfl⟩
        replace H : ((spec_l1Rd_one.f k1 s0_0 t201 y202).bind fun bt205 => ((spec_l15PageText.f k1 s0_0 bt205.2).bind fun bt207 => ((spec_l7Write.f k1 x198000_1 x198001_1 x198002_1 x198003_1 bt205.1 bt207.1).bind fun bt209 => (spec_l15Disk.l0 k1 (wrap64 (x4_1 - 1)) s0_0 bt207.2 bt209.1 bt209.2.1 bt209.2.2.1 bt209.2.2.2.1)))) = some (r1, r2, r3, r4, r5) := by first | (rw [hy202]; with_reducible exact H) | (have H2_ := (Option.bind_some _ _).symm.trans H; rw [hy202]; with_reducible exact H2_) | (have H2_ := (Option.bind_some _ _).symm.trans H; with_reducible exact H2_) | with_reducible exact H | (rw [hy202]; exact H) | exact H
        have Ny202 := Aside0.mk hy202
        clear hy202
        replace H := Option.bind_eq_some_iff.mp H
        obtain ⟨⟨t205, t206⟩, A150, H⟩ := H
        replace H : ((spec_l15PageText.f k1 s0_0 t206).bind fun bt207 => ((spec_l7Write.f k1 x198000_1 x198001_1 x198002_1 x198003_1 t205 bt207.1).bind fun bt209 => (spec_l15Disk.l0 k1 (wrap64 (x4_1 - 1)) s0_0 bt207.2 bt209.1 bt209.2.1 bt209.2.2.1 bt209.2.2.2.1))) = some (r1, r2, r3, r4, r5) := H
        have A15 := Aside0.mk A150
        clear A150
        replace H := Option.bind_eq_some_iff.mp H
        obtain ⟨⟨t207, t208⟩, A160, H⟩ := H
        replace H : ((spec_l7Write.f k1 x198000_1 x198001_1 x198002_1 x198003_1 t205 t207).bind fun bt209 => (spec_l15Disk.l0 k1 (wrap64 (x4_1 - 1)) s0_0 t208 bt209.1 bt209.2.1 bt209.2.2.1 bt209.2.2.2.1)) = some (r1, r2, r3, r4, r5) := H
        have A16 := Aside0.mk A160
        clear A160
        replace H := Option.bind_eq_some_iff.mp H
        obtain ⟨⟨t209, t212, t215, t216, t217⟩, A170, H⟩ := H
        replace H : (spec_l15Disk.l0 k1 (wrap64 (x4_1 - 1)) s0_0 t208 t209 t212 t215 t216) = some (r1, r2, r3, r4, r5) := H
        have A17 := Aside0.mk A170
        clear A170
        have H' := Aside0.mk H
        clear H
        try go_wp2
        have n0_ := Aside0.mk (Kd.zD HO_198000.out)
        have n1_ := Aside0.mk (Kd.zD HO_198001.out)
        have n2_ := Aside0.mk (qI BK188.out)
        have n3_ := Aside0.mk (qI BK197.out)
        have n4_ := Aside0.mk (IsS83.drew HI0.out)
        have n5_ := Aside0.mk (qP HK.out)
        have n6_ := Aside0.mk (qE HB.out)
        clear HO_198000
        clear HO_198001
        clear BK188
        clear BK197
        clear HI0
        clear HK
        clear HB
        have HO_198000 := n0_
        have HO_198001 := n1_
        have BK188 := n2_
        have BK197 := n3_
        have HI0 := n4_
        have HK := n5_
        have HB := n6_
        clear n0_ n1_ n2_ n3_ n4_ n5_ n6_
        refine start_ (n := 13) (S := fun w' => w'.cell? ⟨gb197, 0, none⟩ = some (u198000) ∧ w'.cell? ⟨gb197, 1, none⟩ = some (u198001) ∧ w'.cell? ⟨gb197, 2, none⟩ = some (.int .i64 x198002_1) ∧ w'.cell? ⟨gb197, 3, none⟩ = some (.int .i64 x198003_1)) (ds := [12]) #[false, false, false, false, false, false, false, false, false, false, false, false, false] (by kernel_rfl) rfl rfl ⟨(qA BK197.out 0).trans rfl, (qA BK197.out 1).trans rfl, (qA BK197.out 2).trans rfl, (qA BK197.out 3).trans rfl⟩ (fun hHeld => ?_); refine xH spec_l15Disk.tab5 spec_l15Disk.bits5 (fun HT_ HW_ => ?_)
        generalize wr.drew = w18 at HO_198000 HO_198001 BK188 BK197 HI0 HK HB hHeld ⊢
        refine pure_ (i := 1) (N := some 15) (v := ?_) (a' := ?_) #[false, true, false, false, false, false, false, false, false, false, false, false, false] rfl rfl (zB HT_.out (by kernel_rfl)) (fun _ _ _ h => h) (Or.inl ⟨by rfl, ?_⟩) ?_ ?_
        rotate_left
        · intro w'
          go_simp
          with_reducible rfl
        rotate_left
        · simp only [Act.put, List.setIfInBounds_toArray, List.set_cons_zero, List.set_cons_succ, i64_w, i32_w]
          rfl
        refine pure_ (i := 2) (N := some 16) (v := ?_) (a' := ?_) #[false, true, true, false, false, false, false, false, false, false, false, false, false] rfl rfl (zB HT_.out (by kernel_rfl)) (fun _ _ _ h => h) (Or.inl ⟨by rfl, ?_⟩) ?_ ?_
        rotate_left
        · intro w'
          go_simp
          with_reducible rfl
        rotate_left
        · simp only [Act.put, List.setIfInBounds_toArray, List.set_cons_zero, List.set_cons_succ, i64_w, i32_w]
          rfl
        refine pure_ (i := 6) (N := some 20) (v := ?_) (a' := ?_) #[false, true, true, false, false, false, true, false, false, false, false, false, false] rfl rfl (zB HT_.out (by kernel_rfl)) (fun _ _ _ h => h) (Or.inl ⟨by rfl, ?_⟩) ?_ ?_
        rotate_left
        · intro w'
          go_simp
          with_reducible rfl
        rotate_left
        · simp only [Act.put, List.setIfInBounds_toArray, List.set_cons_zero, List.set_cons_succ, i64_w, i32_w]
          rfl
        refine take_ (i := 0) (N := some 14) (v := ?_) (a' := ?_) #[true, true, true, false, false, false, true, false, false, false, false, false, false] rfl rfl (zQ HT_.out HW_.out (by kernel_rfl)) (fun _ _ _ h => h) (Or.inl ⟨by rfl, ?_⟩) hHeld ?_ ?_
        rotate_left
        · rintro w' ⟨s0, s1, s2, s3⟩
          go_simp
          with_reducible rfl
        rotate_left
        · simp only [Act.put, List.setIfInBounds_toArray, List.set_cons_zero, List.set_cons_succ, i64_w, i32_w]
          rfl
        refine one_ (i := 3) (N := some 17) #[true, true, true, true, false, false, true, false, false, false, false, false, false] rfl rfl (zT HT_.out (by kernel_rfl)) (by decide) (fun K hK => ?_)
        refine goes_ Try.func34 (by kernel_rfl) rfl #[.pointer (some ⟨g, 0, none⟩), .int .i64 42] (by rfl) rfl rfl (by (try simp only [List.map_toArray, List.map_cons, List.map_nil]); first | done | rfl | (simp only [List.length_drop, List.length_take]; rfl)) ?_
        with_reducible refine (spec_l1Rd_pick.calls k1 g s0_0 x1001_1 42 t200 t201 w0 _ ?side1 ?side2 A14.out).mono ?_
        (case side1 => repeat (first | (with_reducible first | exact HI0.out | apply IsS83.alloc | apply IsS83.drewN | apply IsS83.drew | apply IsS83.set_1 | refine IsS83.far ?_ NB0_188.out _ | refine IsS83.far ?_ NB0_197.out _) | exact HI0.out))
        (case side2 => repeat (first | (with_reducible first | exact HB.out | apply qF | apply qB | apply qE | refine qD ?_ (IsS83.ge HI0.out) | refine qD ?_ GE188.out | refine qD ?_ GE197.out) | exact HB.out))
        rintro e w19 ⟨rfl, hi, hb, hk⟩
        refine ⟨_, rfl, ?_⟩
        have n0_ := Aside0.mk (Kd.qS (Kd.zM (IsS83.apart (show IsS83 w0 _ g s0_0 x1001_1 from by repeat (first | (with_reducible first | exact HI0.out | apply IsS83.alloc | apply IsS83.drewN | apply IsS83.drew | apply IsS83.set_1 | refine IsS83.far ?_ NB0_188.out _ | refine IsS83.far ?_ NB0_197.out _) | exact HI0.out)) (rw_ HO_198000.out) (by decide)) hk (fun _ h => h.2)) (fun _ h => h.1))
        have n1_ := Aside0.mk (Kd.qS (Kd.zM (IsS83.apart (show IsS83 w0 _ g s0_0 x1001_1 from by repeat (first | (with_reducible first | exact HI0.out | apply IsS83.alloc | apply IsS83.drewN | apply IsS83.drew | apply IsS83.set_1 | refine IsS83.far ?_ NB0_188.out _ | refine IsS83.far ?_ NB0_197.out _) | exact HI0.out)) (rw_ HO_198001.out) (by decide)) hk (fun _ h => h.2)) (fun _ h => h.1))
        have n2_ := Aside0.mk (KeepBut.blk hk (g' := gb188) (o := .cells #[.slice none 0 0, .slice none 0 0, .int .i64 0, .int .i64 0] 26 (0, 0)) (bw_ BK188.out) NB188_0.out (by simp))
        have n3_ := Aside0.mk (KeepBut.blk hk (g' := gb197) (o := .cells #[u198000, u198001, .int .i64 x198002_1, .int .i64 x198003_1] 26 (0, 0)) (bw_ BK197.out) NB197_0.out (by simp))
        have n4_ := Aside0.mk (KeepBut.trans (by repeat (first | (with_reducible first | exact HK.out | apply KeepBut.set_ | apply qM | apply qP | apply qN | refine qQ ?_ GW188.out _ | refine qQ ?_ GW197.out _) | exact HK.out)) hk (.inl rfl))
        have n5_ := Aside0.mk (hb)
        have n6_ := Aside0.mk (hi)
        clear HO_198000
        clear HO_198001
        clear BK188
        clear BK197
        clear HK
        clear HB
        clear HI0
        have HO_198000 := n0_
        have HO_198001 := n1_
        have BK188 := n2_
        have BK197 := n3_
        have HK := n4_
        have HB := n5_
        have HI0 := n6_
        clear n0_ n1_ n2_ n3_ n4_ n5_ n6_
        (try clear hb)
        (try clear hb2)
        (try clear hk)
        (try clear hi)
        refine hK.out _ _ ⟨(qA BK197.out 0).trans rfl, (qA BK197.out 1).trans rfl, (qA BK197.out 2).trans rfl, (qA BK197.out 3).trans rfl⟩ (fun hHeld => ?_)
        clear hK K
        refine norm_ (a' := ?_) ?_ ?_
        rotate_left
        · show Act.put _ (some 17) _ = _
          simp only [Act.put, List.setIfInBounds_toArray, List.set_cons_zero, List.set_cons_succ, i64_w, i32_w]
          rfl
        refine one_ (i := 4) (N := some 18) #[true, true, true, true, true, false, true, false, false, false, false, false, false] rfl rfl (zT HT_.out (by kernel_rfl)) (by decide) (fun K hK => ?_)
        refine Kd.R_lit_step (Kd.int .i64) _ 3 ?hg (N := 18) ?hd (xs := ([0, 1, 2, 3, 21, 22, 23, 41, t200] : List Int)) (inner := [.int .i64 0, .int .i64 1, .int .i64 2, .int .i64 3, .int .i64 21, .int .i64 22, .int .i64 23, .int .i64 41, .int .i64 t200]) (ok := fun _ => True) (okp := fun _ => True) ?hr ?hp (fun _ hk => hk) trivial (Below.refl _ _) (Nat.le_refl _) (by simp) ?_; (case hd => rfl); (case hg => rfl); (case hr => first | (go_simp; done) | (go_simp; rfl)); (case hp => exact (Reps.one (show Kd.M (Kd.int .i64) _ _ _ 0 [.int .i64 0] from rfl) (Reps.one (show Kd.M (Kd.int .i64) _ _ _ 1 [.int .i64 1] from rfl) (Reps.one (show Kd.M (Kd.int .i64) _ _ _ 2 [.int .i64 2] from rfl) (Reps.one (show Kd.M (Kd.int .i64) _ _ _ 3 [.int .i64 3] from rfl) (Reps.one (show Kd.M (Kd.int .i64) _ _ _ 21 [.int .i64 21] from rfl) (Reps.one (show Kd.M (Kd.int .i64) _ _ _ 22 [.int .i64 22] from rfl) (Reps.one (show Kd.M (Kd.int .i64) _ _ _ 23 [.int .i64 23] from rfl) (Reps.one (show Kd.M (Kd.int .i64) _ _ _ 41 [.int .i64 41] from rfl) (Reps.one (show Kd.M (Kd.int .i64) _ _ _ t200 [.int .i64 t200] from rfl) (Reps.none _ _)))))))))))
        intro v203 w20 ho21 hb hg_ hnew_
        clear hg_ hnew_
        (first | rw [← Ny202.out] at ho21 | (simp only [Int.reduceToNat] at ho21; rw [← Ny202.out] at ho21))
        have n0_ := Aside0.mk (Kd.qZ (rw_ HO_198000.out) hb)
        have n1_ := Aside0.mk (Kd.qZ (rw_ HO_198001.out) hb)
        have n2_ := Aside0.mk (Kd.zJ ho21 (zG (w := w) (g := g) (row := none) (by repeat (first | (with_reducible first | exact HK.out | apply KeepBut.set_ | apply qM | apply qP | apply qN | refine qQ ?_ GW188.out _ | refine qQ ?_ GW197.out _) | exact HK.out))))
        have n3_ := Aside0.mk (qJ (g := gb188) (o := .cells #[.slice none 0 0, .slice none 0 0, .int .i64 0, .int .i64 0] 26 (0, 0)) (bw_ BK188.out) hb)
        have n4_ := Aside0.mk (qJ (g := gb197) (o := .cells #[u198000, u198001, .int .i64 x198002_1, .int .i64 x198003_1] 26 (0, 0)) (bw_ BK197.out) hb)
        have n5_ := Aside0.mk (IsS83.below (by repeat (first | (with_reducible first | exact HI0.out | apply IsS83.alloc | apply IsS83.drewN | apply IsS83.drew | apply IsS83.set_1 | refine IsS83.far ?_ NB0_188.out _ | refine IsS83.far ?_ NB0_197.out _) | exact HI0.out)) hb)
        have n6_ := Aside0.mk (KeepBut.trans (by repeat (first | (with_reducible first | exact HK.out | apply KeepBut.set_ | apply qM | apply qP | apply qN | refine qQ ?_ GW188.out _ | refine qQ ?_ GW197.out _) | exact HK.out)) (KeepBut.of_below hb g none) (.inl rfl))
        have n7_ := Aside0.mk (qL (by repeat (first | (with_reducible first | exact HB.out | apply qF | apply qB | apply qE | refine qD ?_ (IsS83.ge HI0.out) | refine qD ?_ GE188.out | refine qD ?_ GE197.out) | exact HB.out)) hb)
        clear HO_198000
        clear HO_198001
        clear BK188
        clear BK197
        clear HI0
        clear HK
        clear HB
        have HO_198000 := n0_
        have HO_198001 := n1_
        have HO204 := n2_
        have BK188 := n3_
        have BK197 := n4_
        have HI0 := n5_
        have HK := n6_
        have HB := n7_
        clear n0_ n1_ n2_ n3_ n4_ n5_ n6_ n7_
        clear hb ho21
        obtain ⟨Ao22, co22, eo22⟩ := Kd.zE HO204.out
        (first | subst eo22 | (injection eo22 with f1_ f2_ f3_; have f4_ := f1_.symm; have f5_ := f3_.symm; clear f1_ f2_ f3_; subst f4_; subst f5_))
        refine hK.out _ _ ⟨(qA BK197.out 0).trans rfl, (qA BK197.out 1).trans rfl, (qA BK197.out 2).trans rfl, (qA BK197.out 3).trans rfl⟩ (fun hHeld => ?_)
        clear hK K
        refine norm_ (a' := ?_) ?_ ?_
        rotate_left
        · show Act.put _ (some 18) _ = _
          simp only [Act.put, List.setIfInBounds_toArray, List.set_cons_zero, List.set_cons_succ, i64_w, i32_w]
          rfl
        refine one_ (i := 5) (N := some 19) #[true, true, true, true, true, true, true, false, false, false, false, false, false] rfl rfl (zT HT_.out (by kernel_rfl)) (by decide) (fun K hK => ?_)
        refine goes_ Try.func40 (by kernel_rfl) rfl #[.pointer (some ⟨g, 0, none⟩), .slice Ao22 y202.length co22] (by rfl) rfl rfl (by (try simp only [List.map_toArray, List.map_cons, List.map_nil]); first | done | rfl | (simp only [List.length_drop, List.length_take]; rfl)) ?_
        with_reducible refine (spec_l1Rd_one.calls k1 g s0_0 t201 _ _ y202 t205 t206 w0 _ ?side1 ?side2 ?side3 ?side4 ?side5 A15.out).mono ?_
        (case side1 => repeat (first | (with_reducible first | exact HI0.out | apply IsS83.alloc | apply IsS83.drewN | apply IsS83.drew | apply IsS83.set_1 | refine IsS83.far ?_ NB0_188.out _ | refine IsS83.far ?_ NB0_197.out _) | exact HI0.out))
        (case side2 => repeat (first | (with_reducible first | exact HB.out | apply qF | apply qB | apply qE | refine qD ?_ (IsS83.ge HI0.out) | refine qD ?_ GE188.out | refine qD ?_ GE197.out) | exact HB.out))
        (case side3 => repeat (first | exact (Kd.qT HO204.out).2.2 | (with_reducible refine Kd.qX ?_ _) | (with_reducible refine Kd.qY ?_ _) | (with_reducible refine Kd.zC ?_)))
        (case side4 => exact (Kd.qT HO204.out).2.1)
        (case side5 => exact far_slice (IsS83.own_ne HI0.out HO204.out (by decide)))
        rintro e w23 ⟨rfl, hi, hb, hk⟩
        refine ⟨_, rfl, ?_⟩
        have n0_ := Aside0.mk (Kd.qS (Kd.zM (IsS83.apart (show IsS83 w0 _ g s0_0 t201 from by repeat (first | (with_reducible first | exact HI0.out | apply IsS83.alloc | apply IsS83.drewN | apply IsS83.drew | apply IsS83.set_1 | refine IsS83.far ?_ NB0_188.out _ | refine IsS83.far ?_ NB0_197.out _) | exact HI0.out)) (rw_ HO_198000.out) (by decide)) hk (fun _ h => h.2)) (fun _ h => h.1))
        have n1_ := Aside0.mk (Kd.qS (Kd.zM (IsS83.apart (show IsS83 w0 _ g s0_0 t201 from by repeat (first | (with_reducible first | exact HI0.out | apply IsS83.alloc | apply IsS83.drewN | apply IsS83.drew | apply IsS83.set_1 | refine IsS83.far ?_ NB0_188.out _ | refine IsS83.far ?_ NB0_197.out _) | exact HI0.out)) (rw_ HO_198001.out) (by decide)) hk (fun _ h => h.2)) (fun _ h => h.1))
        have n2_ := Aside0.mk (KeepBut.blk hk (g' := gb188) (o := .cells #[.slice none 0 0, .slice none 0 0, .int .i64 0, .int .i64 0] 26 (0, 0)) (bw_ BK188.out) NB188_0.out (by simp))
        have n3_ := Aside0.mk (KeepBut.blk hk (g' := gb197) (o := .cells #[u198000, u198001, .int .i64 x198002_1, .int .i64 x198003_1] 26 (0, 0)) (bw_ BK197.out) NB197_0.out (by simp))
        have n4_ := Aside0.mk (Kd.qS (Kd.zM (IsS83.apart (show IsS83 w0 _ g s0_0 t201 from by repeat (first | (with_reducible first | exact HI0.out | apply IsS83.alloc | apply IsS83.drewN | apply IsS83.drew | apply IsS83.set_1 | refine IsS83.far ?_ NB0_188.out _ | refine IsS83.far ?_ NB0_197.out _) | exact HI0.out)) (rw_ HO204.out) (by decide)) hk (fun _ h => h.2)) (fun _ h => h.1))
        have n5_ := Aside0.mk (KeepBut.trans (by repeat (first | (with_reducible first | exact HK.out | apply KeepBut.set_ | apply qM | apply qP | apply qN | refine qQ ?_ GW188.out _ | refine qQ ?_ GW197.out _) | exact HK.out)) hk (.inl rfl))
        have n6_ := Aside0.mk (hb)
        have n7_ := Aside0.mk (hi)
        clear HO_198000
        clear HO_198001
        clear BK188
        clear BK197
        clear HO204
        clear HK
        clear HB
        clear HI0
        have HO_198000 := n0_
        have HO_198001 := n1_
        have BK188 := n2_
        have BK197 := n3_
        have HO204 := n4_
        have HK := n5_
        have HB := n6_
        have HI0 := n7_
        clear n0_ n1_ n2_ n3_ n4_ n5_ n6_ n7_
        (try clear hb)
        (try clear hb2)
        (try clear hk)
        (try clear hi)
        refine hK.out _ _ ⟨(qA BK197.out 0).trans rfl, (qA BK197.out 1).trans rfl, (qA BK197.out 2).trans rfl, (qA BK197.out 3).trans rfl⟩ (fun hHeld => ?_)
        clear hK K
        refine norm_ (a' := ?_) ?_ ?_
        rotate_left
        · show Act.put _ (some 19) _ = _
          simp only [Act.put, List.setIfInBounds_toArray, List.set_cons_zero, List.set_cons_succ, i64_w, i32_w]
          rfl
        refine one_ (i := 7) (N := some 21) #[true, true, true, true, true, true, true, true, false, false, false, false, false] rfl rfl (zT HT_.out (by kernel_rfl)) (by decide) (fun K hK => ?_)
        refine goes_ Try.func42 (by kernel_rfl) rfl #[.pointer (some ⟨g, 0, none⟩)] (by rfl) rfl rfl (by (try simp only [List.map_toArray, List.map_cons, List.map_nil]); first | done | rfl | (simp only [List.length_drop, List.length_take]; rfl)) ?_
        with_reducible refine (spec_l15PageText.calls k1 g s0_0 t206 t207 t208 w0 _ ?side1 ?side2 A16.out).mono ?_
        (case side1 => repeat (first | (with_reducible first | exact HI0.out | apply IsS83.alloc | apply IsS83.drewN | apply IsS83.drew | apply IsS83.set_1 | refine IsS83.far ?_ NB0_188.out _ | refine IsS83.far ?_ NB0_197.out _) | exact HI0.out))
        (case side2 => repeat (first | (with_reducible first | exact HB.out | apply qF | apply qB | apply qE | refine qD ?_ (IsS83.ge HI0.out) | refine qD ?_ GE188.out | refine qD ?_ GE197.out) | exact HB.out))
        rintro e w24 ⟨rfl, hi, hb, hk⟩
        refine ⟨_, rfl, ?_⟩
        have n0_ := Aside0.mk (Kd.qS (Kd.zM (IsS83.apart (show IsS83 w0 _ g s0_0 t206 from by repeat (first | (with_reducible first | exact HI0.out | apply IsS83.alloc | apply IsS83.drewN | apply IsS83.drew | apply IsS83.set_1 | refine IsS83.far ?_ NB0_188.out _ | refine IsS83.far ?_ NB0_197.out _) | exact HI0.out)) (rw_ HO_198000.out) (by decide)) hk (fun _ h => h.2)) (fun _ h => h.1))
        have n1_ := Aside0.mk (Kd.qS (Kd.zM (IsS83.apart (show IsS83 w0 _ g s0_0 t206 from by repeat (first | (with_reducible first | exact HI0.out | apply IsS83.alloc | apply IsS83.drewN | apply IsS83.drew | apply IsS83.set_1 | refine IsS83.far ?_ NB0_188.out _ | refine IsS83.far ?_ NB0_197.out _) | exact HI0.out)) (rw_ HO_198001.out) (by decide)) hk (fun _ h => h.2)) (fun _ h => h.1))
        have n2_ := Aside0.mk (KeepBut.blk hk (g' := gb188) (o := .cells #[.slice none 0 0, .slice none 0 0, .int .i64 0, .int .i64 0] 26 (0, 0)) (bw_ BK188.out) NB188_0.out (by simp))
        have n3_ := Aside0.mk (KeepBut.blk hk (g' := gb197) (o := .cells #[u198000, u198001, .int .i64 x198002_1, .int .i64 x198003_1] 26 (0, 0)) (bw_ BK197.out) NB197_0.out (by simp))
        have n4_ := Aside0.mk (Kd.qS (Kd.zM (IsS83.apart (show IsS83 w0 _ g s0_0 t206 from by repeat (first | (with_reducible first | exact HI0.out | apply IsS83.alloc | apply IsS83.drewN | apply IsS83.drew | apply IsS83.set_1 | refine IsS83.far ?_ NB0_188.out _ | refine IsS83.far ?_ NB0_197.out _) | exact HI0.out)) (rw_ HO204.out) (by decide)) hk (fun _ h => h.2)) (fun _ h => h.1))
        have n5_ := Aside0.mk (KeepBut.trans (by repeat (first | (with_reducible first | exact HK.out | apply KeepBut.set_ | apply qM | apply qP | apply qN | refine qQ ?_ GW188.out _ | refine qQ ?_ GW197.out _) | exact HK.out)) hk (.inl rfl))
        have n6_ := Aside0.mk (hb)
        have n7_ := Aside0.mk (hi)
        clear HO_198000
        clear HO_198001
        clear BK188
        clear BK197
        clear HO204
        clear HK
        clear HB
        clear HI0
        have HO_198000 := n0_
        have HO_198001 := n1_
        have BK188 := n2_
        have BK197 := n3_
        have HO204 := n4_
        have HK := n5_
        have HB := n6_
        have HI0 := n7_
        clear n0_ n1_ n2_ n3_ n4_ n5_ n6_ n7_
        (try clear hb)
        (try clear hb2)
        (try clear hk)
        (try clear hi)
        obtain ⟨Ao25, co25, eo25⟩ := Kd.zE HO_198000.out
        (first | subst eo25 | (injection eo25 with f1_ f2_ f3_; have f4_ := f1_.symm; have f5_ := f3_.symm; clear f1_ f2_ f3_; subst f4_; subst f5_))
        obtain ⟨Ao26, co26, eo26⟩ := Kd.zE HO_198001.out
        (first | subst eo26 | (injection eo26 with f1_ f2_ f3_; have f4_ := f1_.symm; have f5_ := f3_.symm; clear f1_ f2_ f3_; subst f4_; subst f5_))
        refine hK.out _ _ ⟨(qA BK197.out 0).trans rfl, (qA BK197.out 1).trans rfl, (qA BK197.out 2).trans rfl, (qA BK197.out 3).trans rfl⟩ (fun hHeld => ?_)
        clear hK K
        refine norm_ (a' := ?_) ?_ ?_
        rotate_left
        · show Act.put _ (some 21) _ = _
          simp only [Act.put, List.setIfInBounds_toArray, List.set_cons_zero, List.set_cons_succ, i64_w, i32_w]
          rfl
        refine one_ (i := 8) (N := some 22) #[true, true, true, true, true, true, true, true, true, false, false, false, false] rfl rfl (zT HT_.out (by kernel_rfl)) (by decide) (fun K hK => ?_)
        refine goes_ Try.func43 (by kernel_rfl) rfl #[.agg #[.slice Ao25 x198000_1.length co25, .slice Ao26 x198001_1.length co26, .int .i64 x198002_1, .int .i64 x198003_1], .int .i64 t205, .string t207] (by rfl) rfl rfl (by (try simp only [List.map_toArray, List.map_cons, List.map_nil]); first | done | rfl | (simp only [List.length_drop, List.length_take]; rfl)) ?_
        with_reducible refine (spec_l7Write.calls k1 _ _ x198000_1 _ _ x198001_1 x198002_1 x198003_1 t205 t207 t209 t212 t215 t216 t217 _ ?side1 ?side2 ?side3 ?side4 A17.out).mono ?_
        (case side1 => repeat (first | exact (Kd.qT HO_198000.out).2.2 | (with_reducible refine Kd.qX ?_ _) | (with_reducible refine Kd.qY ?_ _) | (with_reducible refine Kd.zC ?_)))
        (case side2 => exact (Kd.qT HO_198000.out).2.1)
        (case side3 => repeat (first | exact (Kd.qT HO_198001.out).2.2 | (with_reducible refine Kd.qX ?_ _) | (with_reducible refine Kd.qY ?_ _) | (with_reducible refine Kd.zC ?_)))
        (case side4 => exact (Kd.qT HO_198001.out).2.1)
        rintro e w27 ⟨v210, v213, rfl, ho0, ho1, hb⟩
        refine ⟨_, rfl, ?_⟩
        have n0_ := Aside0.mk (Kd.zO (rw_ HO_198000.out) (Kd.zP ho0) hb)
        have n1_ := Aside0.mk (Kd.zO (rw_ HO_198001.out) (Kd.zP ho1) hb)
        have n2_ := Aside0.mk (Kd.qZ (rw_ HO204.out) hb)
        have n3_ := Aside0.mk (Kd.zJ (Kd.zR ho0 (Kd.R_lt (rw_ HO_198000.out))) (zG (w := w) (g := g) (row := none) (by repeat (first | (with_reducible first | exact HK.out | apply KeepBut.set_ | apply qM | apply qP | apply qN | refine qQ ?_ GW188.out _ | refine qQ ?_ GW197.out _) | exact HK.out))))
        have n4_ := Aside0.mk (Kd.zJ (Kd.zR ho1 (Kd.R_lt (rw_ HO_198001.out))) (zG (w := w) (g := g) (row := none) (by repeat (first | (with_reducible first | exact HK.out | apply KeepBut.set_ | apply qM | apply qP | apply qN | refine qQ ?_ GW188.out _ | refine qQ ?_ GW197.out _) | exact HK.out))))
        have n5_ := Aside0.mk (qJ (g := gb188) (o := .cells #[.slice none 0 0, .slice none 0 0, .int .i64 0, .int .i64 0] 26 (0, 0)) (bw_ BK188.out) hb)
        have n6_ := Aside0.mk (qJ (g := gb197) (o := .cells #[.slice Ao25 x198000_1.length co25, .slice Ao26 x198001_1.length co26, .int .i64 x198002_1, .int .i64 x198003_1] 26 (0, 0)) (bw_ BK197.out) hb)
        have n7_ := Aside0.mk (IsS83.below (by repeat (first | (with_reducible first | exact HI0.out | apply IsS83.alloc | apply IsS83.drewN | apply IsS83.drew | apply IsS83.set_1 | refine IsS83.far ?_ NB0_188.out _ | refine IsS83.far ?_ NB0_197.out _) | exact HI0.out)) hb)
        have n8_ := Aside0.mk (KeepBut.trans (by repeat (first | (with_reducible first | exact HK.out | apply KeepBut.set_ | apply qM | apply qP | apply qN | refine qQ ?_ GW188.out _ | refine qQ ?_ GW197.out _) | exact HK.out)) (KeepBut.of_below hb g none) (.inl rfl))
        have n9_ := Aside0.mk (qL (by repeat (first | (with_reducible first | exact HB.out | apply qF | apply qB | apply qE | refine qD ?_ (IsS83.ge HI0.out) | refine qD ?_ GE188.out | refine qD ?_ GE197.out) | exact HB.out)) hb)
        clear HO_198000
        clear HO_198001
        clear HO204
        clear BK188
        clear BK197
        clear HI0
        clear HK
        clear HB
        have HO_198000 := n0_
        have HO_198001 := n1_
        have HO204 := n2_
        have HO211 := n3_
        have HO214 := n4_
        have BK188 := n5_
        have BK197 := n6_
        have HI0 := n7_
        have HK := n8_
        have HB := n9_
        clear n0_ n1_ n2_ n3_ n4_ n5_ n6_ n7_ n8_ n9_
        (try clear hb)
        (try clear hb2)
        (try clear hk)
        (try clear hi)
        (try clear ho0)
        (try clear ho1)
        obtain ⟨Ao28, co28, eo28⟩ := Kd.zE HO211.out
        (first | subst eo28 | (injection eo28 with f1_ f2_ f3_; have f4_ := f1_.symm; have f5_ := f3_.symm; clear f1_ f2_ f3_; subst f4_; subst f5_))
        obtain ⟨Ao30, co30, eo30⟩ := Kd.zE HO214.out
        (first | subst eo30 | (injection eo30 with f1_ f2_ f3_; have f4_ := f1_.symm; have f5_ := f3_.symm; clear f1_ f2_ f3_; subst f4_; subst f5_))
        refine hK.out _ _ ⟨(qA BK197.out 0).trans rfl, (qA BK197.out 1).trans rfl, (qA BK197.out 2).trans rfl, (qA BK197.out 3).trans rfl⟩ (fun hHeld => ?_)
        clear hK K
        refine norm_ (a' := ?_) ?_ ?_
        rotate_left
        · show Act.put _ (some 22) _ = _
          simp only [Act.put, List.setIfInBounds_toArray, List.set_cons_zero, List.set_cons_succ, i64_w, i32_w]
          rfl
        refine pure_ (i := 9) (N := some 13) (v := ?_) (a' := ?_) #[true, true, true, true, true, true, true, true, true, true, false, false, false] rfl rfl (zB HT_.out (by kernel_rfl)) (fun _ _ _ h => h) (Or.inl ⟨by rfl, ?_⟩) ?_ ?_
        rotate_left
        · intro w'
          go_simp
          with_reducible rfl
        rotate_left
        · simp only [Act.put, List.setIfInBounds_toArray, List.set_cons_zero, List.set_cons_succ, i64_w, i32_w]
          rfl
        refine pure_ (i := 10) (N := some 23) (v := ?_) (a' := ?_) #[true, true, true, true, true, true, true, true, true, true, true, false, false] rfl rfl (zB HT_.out (by kernel_rfl)) (fun _ _ _ h => h) (Or.inl ⟨by rfl, ?_⟩) ?_ ?_
        rotate_left
        · intro w'
          go_simp
          with_reducible rfl
        rotate_left
        · simp only [Act.put, List.setIfInBounds_toArray, List.set_cons_zero, List.set_cons_succ, i64_w, i32_w]
          rfl
        refine pure_ (i := 11) (N := some 24) (v := ?_) (a' := ?_) #[true, true, true, true, true, true, true, true, true, true, true, true, false] rfl rfl (zB HT_.out (by kernel_rfl)) (fun _ _ _ h => h) (Or.inl ⟨by rfl, ?_⟩) ?_ ?_
        rotate_left
        · intro w'
          go_simp
          with_reducible rfl
        rotate_left
        · simp only [Act.put, List.setIfInBounds_toArray, List.set_cons_zero, List.set_cons_succ, i64_w, i32_w]
          rfl
        refine last_ (i := 12) (N := none) #[true, true, true, true, true, true, true, true, true, true, true, true, true] rfl rfl (zT HT_.out (by kernel_rfl)) (by decide) (fun K hK => ?_)
        have hs29 : w27.cell? ⟨gb197, 0, none⟩ = some (.slice Ao25 x198000_1.length co25) := (qA BK197.out 0).trans rfl
        have hfs29 := qC BK197.out 0
        have hns29_0 := NB188_197.out
        have hms29_0 := NB197_188.out
        have hs31 : w27.cell? ⟨gb197, 1, none⟩ = some (.slice Ao26 x198001_1.length co26) := (qA BK197.out 1).trans rfl
        have hfs31 := qC BK197.out 1
        have hns31_0 := NB188_197.out
        have hms31_0 := NB197_188.out
        have hs32 : w27.cell? ⟨gb197, 2, none⟩ = some (.int .i64 x198002_1) := (qA BK197.out 2).trans rfl
        have hfs32 := qC BK197.out 2
        have hns32_0 := NB188_197.out
        have hms32_0 := NB197_188.out
        have hs33 : w27.cell? ⟨gb197, 3, none⟩ = some (.int .i64 x198003_1) := (qA BK197.out 3).trans rfl
        have hfs33 := qC BK197.out 3
        have hns33_0 := NB188_197.out
        have hms33_0 := NB197_188.out
        refine skip_ (w1 := ?_) (by rfl) rfl ?_ ?_
        rotate_left
        · go_simp
          rfl
        refine hK.out _ _ ?_
        clear hK K
        refine done_ (done_of HT_.out (by kernel_rfl)) ?_
        try go_wp2
        go_roundg k1
        case measure => have := HK1.out; omega
        case rel => exact ⟨(wrap64 (x4_1 - 1)), (t208), (t209), (t212), (t215), (t216), (.slice Ao28 t209.length co28), (.slice Ao30 t212.length co30), (by first | rfl | (simp; done) | (simp [*]; done)), H', ⟨by have := HK1.out; omega⟩, ⟨by (with_reducible repeat (first | apply Kd.zI | apply Kd.zH | apply Kd.zD)); exact Kd.qS (Kd.R_far (p := ⟨gb197, 3, none⟩) (Kd.R_far (p := ⟨gb197, 2, none⟩) (Kd.R_far (p := ⟨gb197, 1, none⟩) (Kd.R_far (p := ⟨gb197, 0, none⟩) (Kd.qW HO211.out BK197.out (by decide)) (fun _ hk => hk.2) (.slice Ao28 t209.length co28)) (fun _ hk => hk.2) (.slice Ao30 t212.length co30)) (fun _ hk => hk.2) (.int .i64 t215)) (fun _ hk => hk.2) (.int .i64 t216)) (fun _ hk => trivial)⟩, ⟨by (with_reducible repeat (first | apply Kd.zI | apply Kd.zH | apply Kd.zD)); exact Kd.qS (Kd.R_far (p := ⟨gb197, 3, none⟩) (Kd.R_far (p := ⟨gb197, 2, none⟩) (Kd.R_far (p := ⟨gb197, 1, none⟩) (Kd.R_far (p := ⟨gb197, 0, none⟩) (Kd.qW HO214.out BK197.out (by decide)) (fun _ hk => hk.2) (.slice Ao28 t209.length co28)) (fun _ hk => hk.2) (.slice Ao30 t212.length co30)) (fun _ hk => hk.2) (.int .i64 t215)) (fun _ hk => hk.2) (.int .i64 t216)) (fun _ hk => trivial)⟩, ⟨by (with_reducible repeat (first | refine qH ?_ _ | refine qI ?_ | refine qG ?_ _)); refine qR ?_ NB188_197.out _; (with_reducible repeat (first | refine qH ?_ _ | refine qI ?_ | refine qG ?_ _)); refine qR ?_ NB188_197.out _; (with_reducible repeat (first | refine qH ?_ _ | refine qI ?_ | refine qG ?_ _)); refine qR ?_ NB188_197.out _; (with_reducible repeat (first | refine qH ?_ _ | refine qI ?_ | refine qG ?_ _)); refine qR ?_ NB188_197.out _; (with_reducible repeat (first | refine qH ?_ _ | refine qI ?_ | refine qG ?_ _)); exact BK188.out⟩, ⟨by (with_reducible repeat (first | refine qH ?_ _ | refine qI ?_ | refine qG ?_ _)); refine qO (cs := #[.slice Ao28 t209.length co28, .slice Ao30 t212.length co30, .int .i64 t215, .int .i64 x198003_1]) ?_ 3 _ rfl; (with_reducible repeat (first | refine qH ?_ _ | refine qI ?_ | refine qG ?_ _)); refine qO (cs := #[.slice Ao28 t209.length co28, .slice Ao30 t212.length co30, .int .i64 x198002_1, .int .i64 x198003_1]) ?_ 2 _ rfl; (with_reducible repeat (first | refine qH ?_ _ | refine qI ?_ | refine qG ?_ _)); refine qO (cs := #[.slice Ao28 t209.length co28, .slice Ao26 x198001_1.length co26, .int .i64 x198002_1, .int .i64 x198003_1]) ?_ 1 _ rfl; (with_reducible repeat (first | refine qH ?_ _ | refine qI ?_ | refine qG ?_ _)); refine qO (cs := #[.slice Ao25 x198000_1.length co25, .slice Ao26 x198001_1.length co26, .int .i64 x198002_1, .int .i64 x198003_1]) ?_ 0 _ rfl; (with_reducible repeat (first | refine qH ?_ _ | refine qI ?_ | refine qG ?_ _)); exact BK197.out⟩, ⟨by repeat (first | (with_reducible first | exact HI0.out | apply IsS83.alloc | apply IsS83.drewN | apply IsS83.drew | apply IsS83.set_1 | refine IsS83.far ?_ NB0_188.out _ | refine IsS83.far ?_ NB0_197.out _) | exact HI0.out)⟩, ⟨by repeat (first | (with_reducible first | exact HK.out | apply KeepBut.set_ | apply qM | apply qP | apply qN | refine qQ ?_ GW188.out _ | refine qQ ?_ GW197.out _) | exact HK.out)⟩, ⟨by repeat (first | (with_reducible first | exact HB.out | apply qF | apply qB | apply qE | refine qD ?_ (IsS83.ge HI0.out) | refine qD ?_ GE188.out | refine qD ?_ GE197.out) | exact HB.out)⟩⟩
      · rw [if_neg c13] at H
        have c13b0 : decide (0 < x4_1) = false := decide_eq_false c13
        clear c13
        replace H := Option.bind_eq_some_iff.mp H
        obtain ⟨⟨t218, t219⟩, A340, H⟩ := H
        replace H : (if t218 = 0 then ((spec_l7Sync.f k1 x198000_1 x198001_1 x198002_1 x198003_1).bind fun bt220 => (spec_l15Disk.j1 k1 s0_0 t219 bt220.1 bt220.2.1 bt220.2.2.1 bt220.2.2.2)) else (spec_l15Disk.j1 k1 s0_0 t219 x198000_1 x198001_1 x198002_1 x198003_1)) = some (r1, r2, r3, r4, r5) := H
        have A34 := Aside0.mk A340
        clear A340
        have HC35 := Aside0.mk H
        clear H
        go_upto_if 27 with (first | ((with_reducible refine qV (f := 34) rfl ?_); refine zL (some 26) rfl rfl Try.func34 (by kernel_rfl) rfl #[.pointer (some ⟨g, 0, none⟩), .int .i64 2] rfl (by (try simp only [List.map_toArray, List.map_cons, List.map_nil]); first | done | rfl | (simp only [List.length_drop, List.length_take]; rfl)) ?_; (with_reducible refine (spec_l1Rd_pick.calls k1 g s0_0 x1001_1 2 t218 t219 w0 _ ?side1 ?side2 A34.out).mono ?_); (case side1 => repeat (first | (with_reducible first | exact HI0.out | apply IsS83.alloc | apply IsS83.drewN | apply IsS83.drew | apply IsS83.set_1 | refine IsS83.far ?_ NB0_188.out _ | refine IsS83.far ?_ NB0_197.out _) | exact HI0.out)); (case side2 => repeat (first | (with_reducible first | exact HB.out | apply qF | apply qB | apply qE | refine qD ?_ (IsS83.ge HI0.out) | refine qD ?_ GE188.out | refine qD ?_ GE197.out) | exact HB.out)); rintro e w36 ⟨rfl, hi, hb, hk⟩; refine ⟨_, rfl, ?_⟩; have n0_ := Aside0.mk (Kd.qS (Kd.zM (IsS83.apart (show IsS83 w0 _ g s0_0 x1001_1 from by repeat (first | (with_reducible first | exact HI0.out | apply IsS83.alloc | apply IsS83.drewN | apply IsS83.drew | apply IsS83.set_1 | refine IsS83.far ?_ NB0_188.out _ | refine IsS83.far ?_ NB0_197.out _) | exact HI0.out)) (rw_ HO_198000.out) (by decide)) hk (fun _ h => h.2)) (fun _ h => h.1)); have n1_ := Aside0.mk (Kd.qS (Kd.zM (IsS83.apart (show IsS83 w0 _ g s0_0 x1001_1 from by repeat (first | (with_reducible first | exact HI0.out | apply IsS83.alloc | apply IsS83.drewN | apply IsS83.drew | apply IsS83.set_1 | refine IsS83.far ?_ NB0_188.out _ | refine IsS83.far ?_ NB0_197.out _) | exact HI0.out)) (rw_ HO_198001.out) (by decide)) hk (fun _ h => h.2)) (fun _ h => h.1)); have n2_ := Aside0.mk (KeepBut.blk hk (g' := gb188) (o := .cells #[.slice none 0 0, .slice none 0 0, .int .i64 0, .int .i64 0] 26 (0, 0)) (bw_ BK188.out) NB188_0.out (by simp)); have n3_ := Aside0.mk (KeepBut.blk hk (g' := gb197) (o := .cells #[u198000, u198001, .int .i64 x198002_1, .int .i64 x198003_1] 26 (0, 0)) (bw_ BK197.out) NB197_0.out (by simp)); have n4_ := Aside0.mk (KeepBut.trans (by repeat (first | (with_reducible first | exact HK.out | apply KeepBut.set_ | apply qM | apply qP | apply qN | refine qQ ?_ GW188.out _ | refine qQ ?_ GW197.out _) | exact HK.out)) hk (.inl rfl)); have n5_ := Aside0.mk (hb); have n6_ := Aside0.mk (hi); clear HO_198000; clear HO_198001; clear BK188; clear BK197; clear HK; clear HB; clear HI0; have HO_198000 := n0_; have HO_198001 := n1_; have BK188 := n2_; have BK197 := n3_; have HK := n4_; have HB := n5_; have HI0 := n6_; clear n0_ n1_ n2_ n3_ n4_ n5_ n6_; (try clear hb); (try clear hb2); (try clear hk); (try clear hi)))
        (try simp only [Act.put, List.setIfInBounds_toArray, List.set_cons_zero, List.set_cons_succ])
        go_cut [] (fun wc => ∃ (kq : Nat) (x198000_34 : List ByteArray) (x198001_34 : List (S70)) (x198002_34 : Int) (x198003_34 : Int) (u198000 : Value) (u198001 : Value), Aside0 (spec_l15Disk.j1 kq s0_0 t219 x198000_34 x198001_34 x198002_34 x198003_34 = some (r1, r2, r3, r4, r5)) ∧ Aside0 (kq ≤ k1) ∧ Aside0 (Kd.R Kd.string 9 wc w.heap.size (fun _ => True) u198000 x198000_34) ∧ Aside0 (Kd.R k70 70 wc w.heap.size (fun _ => True) u198001 x198001_34) ∧ Aside0 (wc.heap[gb188]? = some (.cells #[(.slice none 0 0), (.slice none 0 0), .int .i64 0, .int .i64 0] 26 (0, 0))) ∧ Aside0 (wc.heap[gb197]? = some (.cells #[u198000, u198001, .int .i64 x198002_34, .int .i64 x198003_34] 26 (0, 0))) ∧ Aside0 (IsS83 w0 wc g s0_0 t219) ∧ Aside0 (KeepBut w wc g none) ∧ Aside0 (Below w0.heap.size w0 wc))
        case first =>
          have H := HC35.out
          clear HC35
          by_cases c37 : t218 = 0
          · rw [if_pos c37] at H
            have c37b0 : (t218 == 0) = true := beq_iff_eq.mpr c37
            have c37b1 : (t218 != 0) = false := bne_eq_false_iff_eq.mpr c37
            clear c37
            (first | rw [c37b0] | (simp only [i64_w, i32_w]; rw [c37b0]) | skip)
            replace H := Option.bind_eq_some_iff.mp H
            obtain ⟨⟨t220, t223, t226, t227⟩, A380, H⟩ := H
            replace H : (spec_l15Disk.j1 k1 s0_0 t219 t220 t223 t226 t227) = some (r1, r2, r3, r4, r5) := H
            have A38 := Aside0.mk A380
            clear A380
            have H' := Aside0.mk H
            clear H
            have hnb39 := NB197_188.out
            have hnc39 := NB188_197.out
            have hnb40 := NB197_0.out
            have hnc40 := NB0_197.out
            have hcz41_0 : w36.cell? ⟨gb197, 0, none⟩ = some (u198000) := (qA BK197.out 0).trans rfl
            have hcz41_1 : w36.cell? ⟨gb197, 1, none⟩ = some (u198001) := (qA BK197.out 1).trans rfl
            have hcz41_2 : w36.cell? ⟨gb197, 2, none⟩ = some (.int .i64 x198002_1) := (qA BK197.out 2).trans rfl
            have hcz41_3 : w36.cell? ⟨gb197, 3, none⟩ = some (.int .i64 x198003_1) := (qA BK197.out 3).trans rfl
            have hfz41_0 := qC BK197.out 0
            have hfz41_1 := qC BK197.out 1
            have hfz41_2 := qC BK197.out 2
            have hfz41_3 := qC BK197.out 3
            obtain ⟨Ao42, co42, eo42⟩ := Kd.zE HO_198000.out
            subst eo42
            obtain ⟨Ao43, co43, eo43⟩ := Kd.zE HO_198001.out
            subst eo43
            go_wp2_with (first | ((with_reducible refine qV (f := 61) rfl ?_); refine zL (some 29) rfl rfl Try.func61 (by kernel_rfl) rfl #[.agg #[.slice Ao42 x198000_1.length co42, .slice Ao43 x198001_1.length co43, .int .i64 x198002_1, .int .i64 x198003_1]] rfl (by (try simp only [List.map_toArray, List.map_cons, List.map_nil]); first | done | rfl | (simp only [List.length_drop, List.length_take]; rfl)) ?_; (with_reducible refine (spec_l7Sync.calls k1 _ _ x198000_1 _ _ x198001_1 x198002_1 x198003_1 t220 t223 t226 t227 _ ?side1 ?side2 ?side3 ?side4 A38.out).mono ?_); (case side1 => repeat (first | exact (Kd.qT HO_198000.out).2.2 | (with_reducible refine Kd.qX ?_ _) | (with_reducible refine Kd.qY ?_ _) | (with_reducible refine Kd.zC ?_))); (case side2 => exact (Kd.qT HO_198000.out).2.1); (case side3 => repeat (first | exact (Kd.qT HO_198001.out).2.2 | (with_reducible refine Kd.qX ?_ _) | (with_reducible refine Kd.qY ?_ _) | (with_reducible refine Kd.zC ?_))); (case side4 => exact (Kd.qT HO_198001.out).2.1); rintro e w44 ⟨v221, v224, rfl, ho0, ho1, hb⟩; refine ⟨_, rfl, ?_⟩; have n0_ := Aside0.mk (Kd.zO (rw_ HO_198000.out) (Kd.zP ho0) hb); have n1_ := Aside0.mk (Kd.zO (rw_ HO_198001.out) (Kd.zP ho1) hb); have n2_ := Aside0.mk (Kd.zJ (Kd.zR ho0 (Kd.R_lt (rw_ HO_198000.out))) (zG (w := w) (g := g) (row := none) (by repeat (first | (with_reducible first | exact HK.out | apply KeepBut.set_ | apply qM | apply qP | apply qN | refine qQ ?_ GW188.out _ | refine qQ ?_ GW197.out _) | exact HK.out)))); have n3_ := Aside0.mk (Kd.zJ (Kd.zR ho1 (Kd.R_lt (rw_ HO_198001.out))) (zG (w := w) (g := g) (row := none) (by repeat (first | (with_reducible first | exact HK.out | apply KeepBut.set_ | apply qM | apply qP | apply qN | refine qQ ?_ GW188.out _ | refine qQ ?_ GW197.out _) | exact HK.out)))); have n4_ := Aside0.mk (qJ (g := gb188) (o := .cells #[.slice none 0 0, .slice none 0 0, .int .i64 0, .int .i64 0] 26 (0, 0)) (bw_ BK188.out) hb); have n5_ := Aside0.mk (qJ (g := gb197) (o := .cells #[.slice Ao42 x198000_1.length co42, .slice Ao43 x198001_1.length co43, .int .i64 x198002_1, .int .i64 x198003_1] 26 (0, 0)) (bw_ BK197.out) hb); have n6_ := Aside0.mk (IsS83.below (by repeat (first | (with_reducible first | exact HI0.out | apply IsS83.alloc | apply IsS83.drewN | apply IsS83.drew | apply IsS83.set_1 | refine IsS83.far ?_ NB0_188.out _ | refine IsS83.far ?_ NB0_197.out _) | exact HI0.out)) hb); have n7_ := Aside0.mk (KeepBut.trans (by repeat (first | (with_reducible first | exact HK.out | apply KeepBut.set_ | apply qM | apply qP | apply qN | refine qQ ?_ GW188.out _ | refine qQ ?_ GW197.out _) | exact HK.out)) (KeepBut.of_below hb g none) (.inl rfl)); have n8_ := Aside0.mk (qL (by repeat (first | (with_reducible first | exact HB.out | apply qF | apply qB | apply qE | refine qD ?_ (IsS83.ge HI0.out) | refine qD ?_ GE188.out | refine qD ?_ GE197.out) | exact HB.out)) hb); clear HO_198000; clear HO_198001; clear BK188; clear BK197; clear HI0; clear HK; clear HB; have HO_198000 := n0_; have HO_198001 := n1_; have HO222 := n2_; have HO225 := n3_; have BK188 := n4_; have BK197 := n5_; have HI0 := n6_; have HK := n7_; have HB := n8_; clear n0_ n1_ n2_ n3_ n4_ n5_ n6_ n7_ n8_; (try clear hb); (try clear hb2); (try clear hk); (try clear hi); (try clear ho0); (try clear ho1); obtain ⟨Ao45, co45, eo45⟩ := Kd.zE HO222.out; subst eo45; have hcz46_0 : w44.cell? ⟨gb197, 0, none⟩ = some (.slice Ao42 x198000_1.length co42) := (qA BK197.out 0).trans rfl; have hcz46_1 : w44.cell? ⟨gb197, 1, none⟩ = some (.slice Ao43 x198001_1.length co43) := (qA BK197.out 1).trans rfl; have hcz46_2 : w44.cell? ⟨gb197, 2, none⟩ = some (.int .i64 x198002_1) := (qA BK197.out 2).trans rfl; have hcz46_3 : w44.cell? ⟨gb197, 3, none⟩ = some (.int .i64 x198003_1) := (qA BK197.out 3).trans rfl; have hfz46_0 := qC BK197.out 0; have hfz46_1 := qC BK197.out 1; have hfz46_2 := qC BK197.out 2; have hfz46_3 := qC BK197.out 3; obtain ⟨Ao47, co47, eo47⟩ := Kd.zE HO225.out; subst eo47))
            go_meet
            case rel => exact ⟨_, (t220), (t223), (t226), (t227), (.slice Ao45 t220.length co45), (.slice Ao47 t223.length co47), H', ⟨by have := HK1.out; first | omega | exact Nat.le_refl _⟩, ⟨by (with_reducible repeat (first | apply Kd.zI | apply Kd.zH | apply Kd.zD)); exact Kd.qS (Kd.R_far (p := ⟨gb197, 3, none⟩) (Kd.R_far (p := ⟨gb197, 2, none⟩) (Kd.R_far (p := ⟨gb197, 1, none⟩) (Kd.R_far (p := ⟨gb197, 0, none⟩) (Kd.qW HO222.out BK197.out (by decide)) (fun _ hk => hk.2) (.slice Ao45 t220.length co45)) (fun _ hk => hk.2) (.slice Ao47 t223.length co47)) (fun _ hk => hk.2) (.int .i64 t226)) (fun _ hk => hk.2) (.int .i64 t227)) (fun _ hk => trivial)⟩, ⟨by (with_reducible repeat (first | apply Kd.zI | apply Kd.zH | apply Kd.zD)); exact Kd.qS (Kd.R_far (p := ⟨gb197, 3, none⟩) (Kd.R_far (p := ⟨gb197, 2, none⟩) (Kd.R_far (p := ⟨gb197, 1, none⟩) (Kd.R_far (p := ⟨gb197, 0, none⟩) (Kd.qW HO225.out BK197.out (by decide)) (fun _ hk => hk.2) (.slice Ao45 t220.length co45)) (fun _ hk => hk.2) (.slice Ao47 t223.length co47)) (fun _ hk => hk.2) (.int .i64 t226)) (fun _ hk => hk.2) (.int .i64 t227)) (fun _ hk => trivial)⟩, ⟨by (with_reducible repeat (first | refine qH ?_ _ | refine qI ?_ | refine qG ?_ _)); refine qR ?_ NB188_197.out _; (with_reducible repeat (first | refine qH ?_ _ | refine qI ?_ | refine qG ?_ _)); refine qR ?_ NB188_197.out _; (with_reducible repeat (first | refine qH ?_ _ | refine qI ?_ | refine qG ?_ _)); refine qR ?_ NB188_197.out _; (with_reducible repeat (first | refine qH ?_ _ | refine qI ?_ | refine qG ?_ _)); refine qR ?_ NB188_197.out _; (with_reducible repeat (first | refine qH ?_ _ | refine qI ?_ | refine qG ?_ _)); exact BK188.out⟩, ⟨by (with_reducible repeat (first | refine qH ?_ _ | refine qI ?_ | refine qG ?_ _)); refine qO (cs := #[.slice Ao45 t220.length co45, .slice Ao47 t223.length co47, .int .i64 t226, .int .i64 x198003_1]) ?_ 3 _ rfl; (with_reducible repeat (first | refine qH ?_ _ | refine qI ?_ | refine qG ?_ _)); refine qO (cs := #[.slice Ao45 t220.length co45, .slice Ao47 t223.length co47, .int .i64 x198002_1, .int .i64 x198003_1]) ?_ 2 _ rfl; (with_reducible repeat (first | refine qH ?_ _ | refine qI ?_ | refine qG ?_ _)); refine qO (cs := #[.slice Ao45 t220.length co45, .slice Ao43 x198001_1.length co43, .int .i64 x198002_1, .int .i64 x198003_1]) ?_ 1 _ rfl; (with_reducible repeat (first | refine qH ?_ _ | refine qI ?_ | refine qG ?_ _)); refine qO (cs := #[.slice Ao42 x198000_1.length co42, .slice Ao43 x198001_1.length co43, .int .i64 x198002_1, .int .i64 x198003_1]) ?_ 0 _ rfl; (with_reducible repeat (first | refine qH ?_ _ | refine qI ?_ | refine qG ?_ _)); exact BK197.out⟩, ⟨by repeat (first | (with_reducible first | exact HI0.out | apply IsS83.alloc | apply IsS83.drewN | apply IsS83.drew | apply IsS83.set_1 | refine IsS83.far ?_ NB0_188.out _ | refine IsS83.far ?_ NB0_197.out _) | exact HI0.out)⟩, ⟨by repeat (first | (with_reducible first | exact HK.out | apply KeepBut.set_ | apply qM | apply qP | apply qN | refine qQ ?_ GW188.out _ | refine qQ ?_ GW197.out _) | exact HK.out)⟩, ⟨by repeat (first | (with_reducible first | exact HB.out | apply qF | apply qB | apply qE | refine qD ?_ (IsS83.ge HI0.out) | refine qD ?_ GE188.out | refine qD ?_ GE197.out) | exact HB.out)⟩⟩
          · rw [if_neg c37] at H
            have c37b0 : (t218 == 0) = false := beq_eq_false_iff_ne.mpr c37
            have c37b1 : (t218 != 0) = true := bne_iff_ne.mpr c37
            (first | rw [c37b0] | (simp only [i64_w, i32_w]; rw [c37b0]) | skip)
            have H' := Aside0.mk H
            clear H
            go_wp2
            go_meet
            case rel => exact ⟨_, (x198000_1), (x198001_1), (x198002_1), (x198003_1), (u198000), (u198001), H', ⟨by have := HK1.out; first | omega | exact Nat.le_refl _⟩, ⟨by (with_reducible repeat (first | apply Kd.zI | apply Kd.zH | apply Kd.zD)); exact HO_198000.out⟩, ⟨by (with_reducible repeat (first | apply Kd.zI | apply Kd.zH | apply Kd.zD)); exact HO_198001.out⟩, ⟨by (with_reducible repeat (first | refine qH ?_ _ | refine qI ?_ | refine qG ?_ _)); exact BK188.out⟩, ⟨by (with_reducible repeat (first | refine qH ?_ _ | refine qI ?_ | refine qG ?_ _)); exact BK197.out⟩, ⟨by repeat (first | (with_reducible first | exact HI0.out | apply IsS83.alloc | apply IsS83.drewN | apply IsS83.drew | apply IsS83.set_1 | refine IsS83.far ?_ NB0_188.out _ | refine IsS83.far ?_ NB0_197.out _) | exact HI0.out)⟩, ⟨by repeat (first | (with_reducible first | exact HK.out | apply KeepBut.set_ | apply qM | apply qP | apply qN | refine qQ ?_ GW188.out _ | refine qQ ?_ GW197.out _) | exact HK.out)⟩, ⟨by repeat (first | (with_reducible first | exact HB.out | apply qF | apply qB | apply qE | refine qD ?_ (IsS83.ge HI0.out) | refine qD ?_ GE188.out | refine qD ?_ GE197.out) | exact HB.out)⟩⟩
        case rest =>
          clear HC35
          try clear c1
          try clear p2
          try clear c3
          try clear c4
          try clear c6
          try clear p6
          try clear c8
          try clear c9
          try clear c13
          try clear c13b0
          try clear c34
          try clear c37
          try clear c37b0
          try clear c37b1
          try clear c39
          try clear c40
          try clear c42
          try clear c43
          try clear hcz10_0
          try clear hcz10_1
          try clear hcz10_2
          try clear hcz10_3
          try clear hcz41_0
          try clear hcz41_1
          try clear hcz41_2
          try clear hcz41_3
          try clear hcz46_0
          try clear hcz46_1
          try clear hcz46_2
          try clear hcz46_3
          try clear hfz10_0
          try clear hfz10_1
          try clear hfz10_2
          try clear hfz10_3
          try clear hfz41_0
          try clear hfz41_1
          try clear hfz41_2
          try clear hfz41_3
          try clear hfz46_0
          try clear hfz46_1
          try clear hfz46_2
          try clear hfz46_3
          try clear p2
          obtain ⟨kq, x198000_34, x198001_34, x198002_34, x198003_34, u198000, u198001, HA, HJ34, HO_198000, HO_198001, BK188, BK197, HI0, HK, HB⟩ := hcut
          cases kq with
          | zero => exact absurd HA.out (by simp [spec_l15Disk.j1])
          | succ kj34 =>
            have H := HA.out
            clear HA
            simp only [spec_l15Disk.j1] at H
            replace H := Option.bind_eq_some_iff.mp H
            obtain ⟨⟨t228, t229⟩, A480, H⟩ := H
            replace H : (spec_l15Disk.l1 kj34 t228 s0_0 t229 x198000_34 x198001_34 x198002_34 x198003_34) = some (r1, r2, r3, r4, r5) := H
            have A48 := Aside0.mk A480
            clear A480
            have H' := Aside0.mk H
            clear H
            go_wp2_with (first | ((with_reducible refine qV (f := 34) rfl ?_); refine zL (some 31) rfl rfl Try.func34 (by kernel_rfl) rfl #[.pointer (some ⟨g, 0, none⟩), .int .i64 6] rfl (by (try simp only [List.map_toArray, List.map_cons, List.map_nil]); first | done | rfl | (simp only [List.length_drop, List.length_take]; rfl)) ?_; (with_reducible refine (spec_l1Rd_pick.calls kj34 g s0_0 t219 6 t228 t229 w0 _ ?side1 ?side2 A48.out).mono ?_); (case side1 => repeat (first | (with_reducible first | exact HI0.out | apply IsS83.alloc | apply IsS83.drewN | apply IsS83.drew | apply IsS83.set_1 | refine IsS83.far ?_ NB0_188.out _ | refine IsS83.far ?_ NB0_197.out _) | exact HI0.out)); (case side2 => repeat (first | (with_reducible first | exact HB.out | apply qF | apply qB | apply qE | refine qD ?_ (IsS83.ge HI0.out) | refine qD ?_ GE188.out | refine qD ?_ GE197.out) | exact HB.out)); rintro e w49 ⟨rfl, hi, hb, hk⟩; refine ⟨_, rfl, ?_⟩; have n0_ := Aside0.mk (Kd.qS (Kd.zM (IsS83.apart (show IsS83 w0 _ g s0_0 t219 from by repeat (first | (with_reducible first | exact HI0.out | apply IsS83.alloc | apply IsS83.drewN | apply IsS83.drew | apply IsS83.set_1 | refine IsS83.far ?_ NB0_188.out _ | refine IsS83.far ?_ NB0_197.out _) | exact HI0.out)) (rw_ HO_198000.out) (by decide)) hk (fun _ h => h.2)) (fun _ h => h.1)); have n1_ := Aside0.mk (Kd.qS (Kd.zM (IsS83.apart (show IsS83 w0 _ g s0_0 t219 from by repeat (first | (with_reducible first | exact HI0.out | apply IsS83.alloc | apply IsS83.drewN | apply IsS83.drew | apply IsS83.set_1 | refine IsS83.far ?_ NB0_188.out _ | refine IsS83.far ?_ NB0_197.out _) | exact HI0.out)) (rw_ HO_198001.out) (by decide)) hk (fun _ h => h.2)) (fun _ h => h.1)); have n2_ := Aside0.mk (KeepBut.blk hk (g' := gb188) (o := .cells #[.slice none 0 0, .slice none 0 0, .int .i64 0, .int .i64 0] 26 (0, 0)) (bw_ BK188.out) NB188_0.out (by simp)); have n3_ := Aside0.mk (KeepBut.blk hk (g' := gb197) (o := .cells #[u198000, u198001, .int .i64 x198002_34, .int .i64 x198003_34] 26 (0, 0)) (bw_ BK197.out) NB197_0.out (by simp)); have n4_ := Aside0.mk (KeepBut.trans (by repeat (first | (with_reducible first | exact HK.out | apply KeepBut.set_ | apply qM | apply qP | apply qN | refine qQ ?_ GW188.out _ | refine qQ ?_ GW197.out _) | exact HK.out)) hk (.inl rfl)); have n5_ := Aside0.mk (hb); have n6_ := Aside0.mk (hi); clear HO_198000; clear HO_198001; clear BK188; clear BK197; clear HK; clear HB; clear HI0; have HO_198000 := n0_; have HO_198001 := n1_; have BK188 := n2_; have BK197 := n3_; have HK := n4_; have HB := n5_; have HI0 := n6_; clear n0_ n1_ n2_ n3_ n4_ n5_ n6_; (try clear hb); (try clear hb2); (try clear hk); (try clear hi)))
            go_loopg [5] kj34 (fun kq v5 w' => ∃ (x5_3 : Int) (x1001_3 : Int) (x198000_3 : List ByteArray) (x198001_3 : List (S70)) (x198002_3 : Int) (x198003_3 : Int) (u198000 : Value) (u198001 : Value), v5 = .int .i64 x5_3 ∧ Aside0 (spec_l15Disk.l1 kq x5_3 s0_0 x1001_3 x198000_3 x198001_3 x198002_3 x198003_3 = some (r1, r2, r3, r4, r5)) ∧ Aside0 (kq ≤ kj34) ∧ Aside0 (Kd.R Kd.string 9 w' w.heap.size (fun _ => True) u198000 x198000_3) ∧ Aside0 (Kd.R k70 70 w' w.heap.size (fun _ => True) u198001 x198001_3) ∧ Aside0 (w'.heap[gb188]? = some (.cells #[(.slice none 0 0), (.slice none 0 0), .int .i64 0, .int .i64 0] 26 (0, 0))) ∧ Aside0 (w'.heap[gb197]? = some (.cells #[u198000, u198001, .int .i64 x198002_3, .int .i64 x198003_3] 26 (0, 0))) ∧ Aside0 (IsS83 w0 w' g s0_0 x1001_3) ∧ Aside0 (KeepBut w w' g none) ∧ Aside0 (Below w0.heap.size w0 w'))
            case atStart => exact ⟨(t228), (t229), (x198000_34), (x198001_34), (x198002_34), (x198003_34), (u198000), (u198001), (by first | rfl | (simp; done) | (simp [*]; done)), H', ⟨Nat.le_refl _⟩, ⟨by (with_reducible repeat (first | apply Kd.zI | apply Kd.zH | apply Kd.zD)); exact HO_198000.out⟩, ⟨by (with_reducible repeat (first | apply Kd.zI | apply Kd.zH | apply Kd.zD)); exact HO_198001.out⟩, ⟨by (with_reducible repeat (first | refine qH ?_ _ | refine qI ?_ | refine qG ?_ _)); exact BK188.out⟩, ⟨by (with_reducible repeat (first | refine qH ?_ _ | refine qI ?_ | refine qG ?_ _)); exact BK197.out⟩, ⟨by repeat (first | (with_reducible first | exact HI0.out | apply IsS83.alloc | apply IsS83.drewN | apply IsS83.drew | apply IsS83.set_1 | refine IsS83.far ?_ NB0_188.out _ | refine IsS83.far ?_ NB0_197.out _) | exact HI0.out)⟩, ⟨by repeat (first | (with_reducible first | exact HK.out | apply KeepBut.set_ | apply qM | apply qP | apply qN | refine qQ ?_ GW188.out _ | refine qQ ?_ GW197.out _) | exact HK.out)⟩, ⟨by repeat (first | (with_reducible first | exact HB.out | apply qF | apply qB | apply qE | refine qD ?_ (IsS83.ge HI0.out) | refine qD ?_ GE188.out | refine qD ?_ GE197.out) | exact HB.out)⟩⟩
            case round =>
              clear H'
              try clear c1
              try clear p2
              try clear c3
              try clear c4
              try clear c6
              try clear p6
              try clear c8
              try clear c9
              try clear c13
              try clear c13b0
              try clear c34
              try clear c37
              try clear c37b0
              try clear c37b1
              try clear c39
              try clear c40
              try clear c42
              try clear c43
              try clear hcz10_0
              try clear hcz10_1
              try clear hcz10_2
              try clear hcz10_3
              try clear hcz41_0
              try clear hcz41_1
              try clear hcz41_2
              try clear hcz41_3
              try clear hcz46_0
              try clear hcz46_1
              try clear hcz46_2
              try clear hcz46_3
              try clear hfz10_0
              try clear hfz10_1
              try clear hfz10_2
              try clear hfz10_3
              try clear hfz41_0
              try clear hfz41_1
              try clear hfz41_2
              try clear hfz41_3
              try clear hfz46_0
              try clear hfz46_1
              try clear hfz46_2
              try clear hfz46_3
              try clear p2
              try clear p6
              obtain ⟨x5_3, x1001_3, x198000_3, x198001_3, x198002_3, x198003_3, u198000, u198001, rfl, HA, HK3, HO_198000, HO_198001, BK188, BK197, HI0, HK, HB⟩ := hrel
              cases gk with
              | zero => exact absurd HA.out (by simp [spec_l15Disk.l1])
              | succ k3 =>
                have H := HA.out
                clear HA
                simp only [spec_l15Disk.l1] at H
                by_cases c50 : x5_3 > 0
                · rw [if_pos c50] at H
                  have c50b0 : decide (0 < x5_3) = true := decide_eq_true c50
                  clear c50
                  replace H := Option.bind_eq_some_iff.mp H
                  obtain ⟨⟨t240, t241⟩, A510, H⟩ := H
                  replace H : ((spec_l1Rd_one.f k3 s0_0 t241 (([0, 1, 2, 22, t240] : List Int))).bind fun bt245 => ((spec_l15PageText.f k3 s0_0 bt245.2).bind fun bt247 => ((spec_l7Write.f k3 x198000_3 x198001_3 x198002_3 x198003_3 bt245.1 bt247.1).bind fun bt249 => (spec_l15Disk.l1 k3 (wrap64 (x5_3 - 1)) s0_0 bt247.2 bt249.1 bt249.2.1 bt249.2.2.1 bt249.2.2.2.1)))) = some (r1, r2, r3, r4, r5) := H
                  have A51 := Aside0.mk A510
                  clear A510
                  obtain ⟨y242, hy242⟩ : ∃ y_ : List Int, y_ = (([0, 1, 2, 22, t240] : List Int)) := ⟨_, rfl⟩
                  replace H : ((spec_l1Rd_one.f k3 s0_0 t241 y242).bind fun bt245 => ((spec_l15PageText.f k3 s0_0 bt245.2).bind fun bt247 => ((spec_l7Write.f k3 x198000_3 x198001_3 x198002_3 x198003_3 bt245.1 bt247.1).bind fun bt249 => (spec_l15Disk.l1 k3 (wrap64 (x5_3 - 1)) s0_0 bt247.2 bt249.1 bt249.2.1 bt249.2.2.1 bt249.2.2.2.1)))) = some (r1, r2, r3, r4, r5) := by first | (rw [hy242]; with_reducible exact H) | (have H2_ := (Option.bind_some _ _).symm.trans H; rw [hy242]; with_reducible exact H2_) | (have H2_ := (Option.bind_some _ _).symm.trans H; with_reducible exact H2_) | with_reducible exact H | (rw [hy242]; exact H) | exact H
                  have Ny242 := Aside0.mk hy242
                  clear hy242
                  replace H := Option.bind_eq_some_iff.mp H
                  obtain ⟨⟨t245, t246⟩, A520, H⟩ := H
                  replace H : ((spec_l15PageText.f k3 s0_0 t246).bind fun bt247 => ((spec_l7Write.f k3 x198000_3 x198001_3 x198002_3 x198003_3 t245 bt247.1).bind fun bt249 => (spec_l15Disk.l1 k3 (wrap64 (x5_3 - 1)) s0_0 bt247.2 bt249.1 bt249.2.1 bt249.2.2.1 bt249.2.2.2.1))) = some (r1, r2, r3, r4, r5) := H
                  have A52 := Aside0.mk A520
                  clear A520
                  replace H := Option.bind_eq_some_iff.mp H
                  obtain ⟨⟨t247, t248⟩, A530, H⟩ := H
                  replace H : ((spec_l7Write.f k3 x198000_3 x198001_3 x198002_3 x198003_3 t245 t247).bind fun bt249 => (spec_l15Disk.l1 k3 (wrap64 (x5_3 - 1)) s0_0 t248 bt249.1 bt249.2.1 bt249.2.2.1 bt249.2.2.2.1)) = some (r1, r2, r3, r4, r5) := H
                  have A53 := Aside0.mk A530
                  clear A530
                  replace H := Option.bind_eq_some_iff.mp H
                  obtain ⟨⟨t249, t252, t255, t256, t257⟩, A540, H⟩ := H
                  replace H : (spec_l15Disk.l1 k3 (wrap64 (x5_3 - 1)) s0_0 t248 t249 t252 t255 t256) = some (r1, r2, r3, r4, r5) := H
                  have A54 := Aside0.mk A540
                  clear A540
                  have H' := Aside0.mk H
                  clear H
                  try go_wp2
                  have n0_ := Aside0.mk (Kd.zD HO_198000.out)
                  have n1_ := Aside0.mk (Kd.zD HO_198001.out)
                  have n2_ := Aside0.mk (qI BK188.out)
                  have n3_ := Aside0.mk (qI BK197.out)
                  have n4_ := Aside0.mk (IsS83.drew HI0.out)
                  have n5_ := Aside0.mk (qP HK.out)
                  have n6_ := Aside0.mk (qE HB.out)
                  clear HO_198000
                  clear HO_198001
                  clear BK188
                  clear BK197
                  clear HI0
                  clear HK
                  clear HB
                  have HO_198000 := n0_
                  have HO_198001 := n1_
                  have BK188 := n2_
                  have BK197 := n3_
                  have HI0 := n4_
                  have HK := n5_
                  have HB := n6_
                  clear n0_ n1_ n2_ n3_ n4_ n5_ n6_
                  refine start_ (n := 13) (S := fun w' => w'.cell? ⟨gb197, 0, none⟩ = some (u198000) ∧ w'.cell? ⟨gb197, 1, none⟩ = some (u198001) ∧ w'.cell? ⟨gb197, 2, none⟩ = some (.int .i64 x198002_3) ∧ w'.cell? ⟨gb197, 3, none⟩ = some (.int .i64 x198003_3)) (ds := [12]) #[false, false, false, false, false, false, false, false, false, false, false, false, false] (by kernel_rfl) rfl rfl ⟨(qA BK197.out 0).trans rfl, (qA BK197.out 1).trans rfl, (qA BK197.out 2).trans rfl, (qA BK197.out 3).trans rfl⟩ (fun hHeld => ?_); refine xH spec_l15Disk.tab11 spec_l15Disk.bits11 (fun HT_ HW_ => ?_)
                  generalize wr.drew = w55 at HO_198000 HO_198001 BK188 BK197 HI0 HK HB hHeld ⊢
                  refine pure_ (i := 1) (N := some 38) (v := ?_) (a' := ?_) #[false, true, false, false, false, false, false, false, false, false, false, false, false] rfl rfl (zB HT_.out (by kernel_rfl)) (fun _ _ _ h => h) (Or.inl ⟨by rfl, ?_⟩) ?_ ?_
                  rotate_left
                  · intro w'
                    go_simp
                    with_reducible rfl
                  rotate_left
                  · simp only [Act.put, List.setIfInBounds_toArray, List.set_cons_zero, List.set_cons_succ, i64_w, i32_w]
                    rfl
                  refine pure_ (i := 2) (N := some 39) (v := ?_) (a' := ?_) #[false, true, true, false, false, false, false, false, false, false, false, false, false] rfl rfl (zB HT_.out (by kernel_rfl)) (fun _ _ _ h => h) (Or.inl ⟨by rfl, ?_⟩) ?_ ?_
                  rotate_left
                  · intro w'
                    go_simp
                    with_reducible rfl
                  rotate_left
                  · simp only [Act.put, List.setIfInBounds_toArray, List.set_cons_zero, List.set_cons_succ, i64_w, i32_w]
                    rfl
                  refine pure_ (i := 6) (N := some 43) (v := ?_) (a' := ?_) #[false, true, true, false, false, false, true, false, false, false, false, false, false] rfl rfl (zB HT_.out (by kernel_rfl)) (fun _ _ _ h => h) (Or.inl ⟨by rfl, ?_⟩) ?_ ?_
                  rotate_left
                  · intro w'
                    go_simp
                    with_reducible rfl
                  rotate_left
                  · simp only [Act.put, List.setIfInBounds_toArray, List.set_cons_zero, List.set_cons_succ, i64_w, i32_w]
                    rfl
                  refine take_ (i := 0) (N := some 37) (v := ?_) (a' := ?_) #[true, true, true, false, false, false, true, false, false, false, false, false, false] rfl rfl (zQ HT_.out HW_.out (by kernel_rfl)) (fun _ _ _ h => h) (Or.inl ⟨by rfl, ?_⟩) hHeld ?_ ?_
                  rotate_left
                  · rintro w' ⟨s0, s1, s2, s3⟩
                    go_simp
                    with_reducible rfl
                  rotate_left
                  · simp only [Act.put, List.setIfInBounds_toArray, List.set_cons_zero, List.set_cons_succ, i64_w, i32_w]
                    rfl
                  refine one_ (i := 3) (N := some 40) #[true, true, true, true, false, false, true, false, false, false, false, false, false] rfl rfl (zT HT_.out (by kernel_rfl)) (by decide) (fun K hK => ?_)
                  refine goes_ Try.func34 (by kernel_rfl) rfl #[.pointer (some ⟨g, 0, none⟩), .int .i64 42] (by rfl) rfl rfl (by (try simp only [List.map_toArray, List.map_cons, List.map_nil]); first | done | rfl | (simp only [List.length_drop, List.length_take]; rfl)) ?_
                  with_reducible refine (spec_l1Rd_pick.calls k3 g s0_0 x1001_3 42 t240 t241 w0 _ ?side1 ?side2 A51.out).mono ?_
                  (case side1 => repeat (first | (with_reducible first | exact HI0.out | apply IsS83.alloc | apply IsS83.drewN | apply IsS83.drew | apply IsS83.set_1 | refine IsS83.far ?_ NB0_188.out _ | refine IsS83.far ?_ NB0_197.out _) | exact HI0.out))
                  (case side2 => repeat (first | (with_reducible first | exact HB.out | apply qF | apply qB | apply qE | refine qD ?_ (IsS83.ge HI0.out) | refine qD ?_ GE188.out | refine qD ?_ GE197.out) | exact HB.out))
                  rintro e w56 ⟨rfl, hi, hb, hk⟩
                  refine ⟨_, rfl, ?_⟩
                  have n0_ := Aside0.mk (Kd.qS (Kd.zM (IsS83.apart (show IsS83 w0 _ g s0_0 x1001_3 from by repeat (first | (with_reducible first | exact HI0.out | apply IsS83.alloc | apply IsS83.drewN | apply IsS83.drew | apply IsS83.set_1 | refine IsS83.far ?_ NB0_188.out _ | refine IsS83.far ?_ NB0_197.out _) | exact HI0.out)) (rw_ HO_198000.out) (by decide)) hk (fun _ h => h.2)) (fun _ h => h.1))
                  have n1_ := Aside0.mk (Kd.qS (Kd.zM (IsS83.apart (show IsS83 w0 _ g s0_0 x1001_3 from by repeat (first | (with_reducible first | exact HI0.out | apply IsS83.alloc | apply IsS83.drewN | apply IsS83.drew | apply IsS83.set_1 | refine IsS83.far ?_ NB0_188.out _ | refine IsS83.far ?_ NB0_197.out _) | exact HI0.out)) (rw_ HO_198001.out) (by decide)) hk (fun _ h => h.2)) (fun _ h => h.1))
                  have n2_ := Aside0.mk (KeepBut.blk hk (g' := gb188) (o := .cells #[.slice none 0 0, .slice none 0 0, .int .i64 0, .int .i64 0] 26 (0, 0)) (bw_ BK188.out) NB188_0.out (by simp))
                  have n3_ := Aside0.mk (KeepBut.blk hk (g' := gb197) (o := .cells #[u198000, u198001, .int .i64 x198002_3, .int .i64 x198003_3] 26 (0, 0)) (bw_ BK197.out) NB197_0.out (by simp))
                  have n4_ := Aside0.mk (KeepBut.trans (by repeat (first | (with_reducible first | exact HK.out | apply KeepBut.set_ | apply qM | apply qP | apply qN | refine qQ ?_ GW188.out _ | refine qQ ?_ GW197.out _) | exact HK.out)) hk (.inl rfl))
                  have n5_ := Aside0.mk (hb)
                  have n6_ := Aside0.mk (hi)
                  clear HO_198000
                  clear HO_198001
                  clear BK188
                  clear BK197
                  clear HK
                  clear HB
                  clear HI0
                  have HO_198000 := n0_
                  have HO_198001 := n1_
                  have BK188 := n2_
                  have BK197 := n3_
                  have HK := n4_
                  have HB := n5_
                  have HI0 := n6_
                  clear n0_ n1_ n2_ n3_ n4_ n5_ n6_
                  (try clear hb)
                  (try clear hb2)
                  (try clear hk)
                  (try clear hi)
                  refine hK.out _ _ ⟨(qA BK197.out 0).trans rfl, (qA BK197.out 1).trans rfl, (qA BK197.out 2).trans rfl, (qA BK197.out 3).trans rfl⟩ (fun hHeld => ?_)
                  clear hK K
                  refine norm_ (a' := ?_) ?_ ?_
                  rotate_left
                  · show Act.put _ (some 40) _ = _
                    simp only [Act.put, List.setIfInBounds_toArray, List.set_cons_zero, List.set_cons_succ, i64_w, i32_w]
                    rfl
                  refine one_ (i := 4) (N := some 41) #[true, true, true, true, true, false, true, false, false, false, false, false, false] rfl rfl (zT HT_.out (by kernel_rfl)) (by decide) (fun K hK => ?_)
                  refine Kd.R_lit_step (Kd.int .i64) _ 3 ?hg (N := 41) ?hd (xs := ([0, 1, 2, 22, t240] : List Int)) (inner := [.int .i64 0, .int .i64 1, .int .i64 2, .int .i64 22, .int .i64 t240]) (ok := fun _ => True) (okp := fun _ => True) ?hr ?hp (fun _ hk => hk) trivial (Below.refl _ _) (Nat.le_refl _) (by simp) ?_; (case hd => rfl); (case hg => rfl); (case hr => first | (go_simp; done) | (go_simp; rfl)); (case hp => exact (Reps.one (show Kd.M (Kd.int .i64) _ _ _ 0 [.int .i64 0] from rfl) (Reps.one (show Kd.M (Kd.int .i64) _ _ _ 1 [.int .i64 1] from rfl) (Reps.one (show Kd.M (Kd.int .i64) _ _ _ 2 [.int .i64 2] from rfl) (Reps.one (show Kd.M (Kd.int .i64) _ _ _ 22 [.int .i64 22] from rfl) (Reps.one (show Kd.M (Kd.int .i64) _ _ _ t240 [.int .i64 t240] from rfl) (Reps.none _ _)))))))
                  intro v243 w57 ho58 hb hg_ hnew_
                  clear hg_ hnew_
                  (first | rw [← Ny242.out] at ho58 | (simp only [Int.reduceToNat] at ho58; rw [← Ny242.out] at ho58))
                  have n0_ := Aside0.mk (Kd.qZ (rw_ HO_198000.out) hb)
                  have n1_ := Aside0.mk (Kd.qZ (rw_ HO_198001.out) hb)
                  have n2_ := Aside0.mk (Kd.zJ ho58 (zG (w := w) (g := g) (row := none) (by repeat (first | (with_reducible first | exact HK.out | apply KeepBut.set_ | apply qM | apply qP | apply qN | refine qQ ?_ GW188.out _ | refine qQ ?_ GW197.out _) | exact HK.out))))
                  have n3_ := Aside0.mk (qJ (g := gb188) (o := .cells #[.slice none 0 0, .slice none 0 0, .int .i64 0, .int .i64 0] 26 (0, 0)) (bw_ BK188.out) hb)
                  have n4_ := Aside0.mk (qJ (g := gb197) (o := .cells #[u198000, u198001, .int .i64 x198002_3, .int .i64 x198003_3] 26 (0, 0)) (bw_ BK197.out) hb)
                  have n5_ := Aside0.mk (IsS83.below (by repeat (first | (with_reducible first | exact HI0.out | apply IsS83.alloc | apply IsS83.drewN | apply IsS83.drew | apply IsS83.set_1 | refine IsS83.far ?_ NB0_188.out _ | refine IsS83.far ?_ NB0_197.out _) | exact HI0.out)) hb)
                  have n6_ := Aside0.mk (KeepBut.trans (by repeat (first | (with_reducible first | exact HK.out | apply KeepBut.set_ | apply qM | apply qP | apply qN | refine qQ ?_ GW188.out _ | refine qQ ?_ GW197.out _) | exact HK.out)) (KeepBut.of_below hb g none) (.inl rfl))
                  have n7_ := Aside0.mk (qL (by repeat (first | (with_reducible first | exact HB.out | apply qF | apply qB | apply qE | refine qD ?_ (IsS83.ge HI0.out) | refine qD ?_ GE188.out | refine qD ?_ GE197.out) | exact HB.out)) hb)
                  clear HO_198000
                  clear HO_198001
                  clear BK188
                  clear BK197
                  clear HI0
                  clear HK
                  clear HB
                  have HO_198000 := n0_
                  have HO_198001 := n1_
                  have HO244 := n2_
                  have BK188 := n3_
                  have BK197 := n4_
                  have HI0 := n5_
                  have HK := n6_
                  have HB := n7_
                  clear n0_ n1_ n2_ n3_ n4_ n5_ n6_ n7_
                  clear hb ho58
                  obtain ⟨Ao59, co59, eo59⟩ := Kd.zE HO244.out
                  (first | subst eo59 | (injection eo59 with f1_ f2_ f3_; have f4_ := f1_.symm; have f5_ := f3_.symm; clear f1_ f2_ f3_; subst f4_; subst f5_))
                  refine hK.out _ _ ⟨(qA BK197.out 0).trans rfl, (qA BK197.out 1).trans rfl, (qA BK197.out 2).trans rfl, (qA BK197.out 3).trans rfl⟩ (fun hHeld => ?_)
                  clear hK K
                  refine norm_ (a' := ?_) ?_ ?_
                  rotate_left
                  · show Act.put _ (some 41) _ = _
                    simp only [Act.put, List.setIfInBounds_toArray, List.set_cons_zero, List.set_cons_succ, i64_w, i32_w]
                    rfl
                  refine one_ (i := 5) (N := some 42) #[true, true, true, true, true, true, true, false, false, false, false, false, false] rfl rfl (zT HT_.out (by kernel_rfl)) (by decide) (fun K hK => ?_)
                  refine goes_ Try.func40 (by kernel_rfl) rfl #[.pointer (some ⟨g, 0, none⟩), .slice Ao59 y242.length co59] (by rfl) rfl rfl (by (try simp only [List.map_toArray, List.map_cons, List.map_nil]); first | done | rfl | (simp only [List.length_drop, List.length_take]; rfl)) ?_
                  with_reducible refine (spec_l1Rd_one.calls k3 g s0_0 t241 _ _ y242 t245 t246 w0 _ ?side1 ?side2 ?side3 ?side4 ?side5 A52.out).mono ?_
                  (case side1 => repeat (first | (with_reducible first | exact HI0.out | apply IsS83.alloc | apply IsS83.drewN | apply IsS83.drew | apply IsS83.set_1 | refine IsS83.far ?_ NB0_188.out _ | refine IsS83.far ?_ NB0_197.out _) | exact HI0.out))
                  (case side2 => repeat (first | (with_reducible first | exact HB.out | apply qF | apply qB | apply qE | refine qD ?_ (IsS83.ge HI0.out) | refine qD ?_ GE188.out | refine qD ?_ GE197.out) | exact HB.out))
                  (case side3 => repeat (first | exact (Kd.qT HO244.out).2.2 | (with_reducible refine Kd.qX ?_ _) | (with_reducible refine Kd.qY ?_ _) | (with_reducible refine Kd.zC ?_)))
                  (case side4 => exact (Kd.qT HO244.out).2.1)
                  (case side5 => exact far_slice (IsS83.own_ne HI0.out HO244.out (by decide)))
                  rintro e w60 ⟨rfl, hi, hb, hk⟩
                  refine ⟨_, rfl, ?_⟩
                  have n0_ := Aside0.mk (Kd.qS (Kd.zM (IsS83.apart (show IsS83 w0 _ g s0_0 t241 from by repeat (first | (with_reducible first | exact HI0.out | apply IsS83.alloc | apply IsS83.drewN | apply IsS83.drew | apply IsS83.set_1 | refine IsS83.far ?_ NB0_188.out _ | refine IsS83.far ?_ NB0_197.out _) | exact HI0.out)) (rw_ HO_198000.out) (by decide)) hk (fun _ h => h.2)) (fun _ h => h.1))
                  have n1_ := Aside0.mk (Kd.qS (Kd.zM (IsS83.apart (show IsS83 w0 _ g s0_0 t241 from by repeat (first | (with_reducible first | exact HI0.out | apply IsS83.alloc | apply IsS83.drewN | apply IsS83.drew | apply IsS83.set_1 | refine IsS83.far ?_ NB0_188.out _ | refine IsS83.far ?_ NB0_197.out _) | exact HI0.out)) (rw_ HO_198001.out) (by decide)) hk (fun _ h => h.2)) (fun _ h => h.1))
                  have n2_ := Aside0.mk (KeepBut.blk hk (g' := gb188) (o := .cells #[.slice none 0 0, .slice none 0 0, .int .i64 0, .int .i64 0] 26 (0, 0)) (bw_ BK188.out) NB188_0.out (by simp))
                  have n3_ := Aside0.mk (KeepBut.blk hk (g' := gb197) (o := .cells #[u198000, u198001, .int .i64 x198002_3, .int .i64 x198003_3] 26 (0, 0)) (bw_ BK197.out) NB197_0.out (by simp))
                  have n4_ := Aside0.mk (Kd.qS (Kd.zM (IsS83.apart (show IsS83 w0 _ g s0_0 t241 from by repeat (first | (with_reducible first | exact HI0.out | apply IsS83.alloc | apply IsS83.drewN | apply IsS83.drew | apply IsS83.set_1 | refine IsS83.far ?_ NB0_188.out _ | refine IsS83.far ?_ NB0_197.out _) | exact HI0.out)) (rw_ HO244.out) (by decide)) hk (fun _ h => h.2)) (fun _ h => h.1))
                  have n5_ := Aside0.mk (KeepBut.trans (by repeat (first | (with_reducible first | exact HK.out | apply KeepBut.set_ | apply qM | apply qP | apply qN | refine qQ ?_ GW188.out _ | refine qQ ?_ GW197.out _) | exact HK.out)) hk (.inl rfl))
                  have n6_ := Aside0.mk (hb)
                  have n7_ := Aside0.mk (hi)
                  clear HO_198000
                  clear HO_198001
                  clear BK188
                  clear BK197
                  clear HO244
                  clear HK
                  clear HB
                  clear HI0
                  have HO_198000 := n0_
                  have HO_198001 := n1_
                  have BK188 := n2_
                  have BK197 := n3_
                  have HO244 := n4_
                  have HK := n5_
                  have HB := n6_
                  have HI0 := n7_
                  clear n0_ n1_ n2_ n3_ n4_ n5_ n6_ n7_
                  (try clear hb)
                  (try clear hb2)
                  (try clear hk)
                  (try clear hi)
                  refine hK.out _ _ ⟨(qA BK197.out 0).trans rfl, (qA BK197.out 1).trans rfl, (qA BK197.out 2).trans rfl, (qA BK197.out 3).trans rfl⟩ (fun hHeld => ?_)
                  clear hK K
                  refine norm_ (a' := ?_) ?_ ?_
                  rotate_left
                  · show Act.put _ (some 42) _ = _
                    simp only [Act.put, List.setIfInBounds_toArray, List.set_cons_zero, List.set_cons_succ, i64_w, i32_w]
                    rfl
                  refine one_ (i := 7) (N := some 44) #[true, true, true, true, true, true, true, true, false, false, false, false, false] rfl rfl (zT HT_.out (by kernel_rfl)) (by decide) (fun K hK => ?_)
                  refine goes_ Try.func42 (by kernel_rfl) rfl #[.pointer (some ⟨g, 0, none⟩)] (by rfl) rfl rfl (by (try simp only [List.map_toArray, List.map_cons, List.map_nil]); first | done | rfl | (simp only [List.length_drop, List.length_take]; rfl)) ?_
                  with_reducible refine (spec_l15PageText.calls k3 g s0_0 t246 t247 t248 w0 _ ?side1 ?side2 A53.out).mono ?_
                  (case side1 => repeat (first | (with_reducible first | exact HI0.out | apply IsS83.alloc | apply IsS83.drewN | apply IsS83.drew | apply IsS83.set_1 | refine IsS83.far ?_ NB0_188.out _ | refine IsS83.far ?_ NB0_197.out _) | exact HI0.out))
                  (case side2 => repeat (first | (with_reducible first | exact HB.out | apply qF | apply qB | apply qE | refine qD ?_ (IsS83.ge HI0.out) | refine qD ?_ GE188.out | refine qD ?_ GE197.out) | exact HB.out))
                  rintro e w61 ⟨rfl, hi, hb, hk⟩
                  refine ⟨_, rfl, ?_⟩
                  have n0_ := Aside0.mk (Kd.qS (Kd.zM (IsS83.apart (show IsS83 w0 _ g s0_0 t246 from by repeat (first | (with_reducible first | exact HI0.out | apply IsS83.alloc | apply IsS83.drewN | apply IsS83.drew | apply IsS83.set_1 | refine IsS83.far ?_ NB0_188.out _ | refine IsS83.far ?_ NB0_197.out _) | exact HI0.out)) (rw_ HO_198000.out) (by decide)) hk (fun _ h => h.2)) (fun _ h => h.1))
                  have n1_ := Aside0.mk (Kd.qS (Kd.zM (IsS83.apart (show IsS83 w0 _ g s0_0 t246 from by repeat (first | (with_reducible first | exact HI0.out | apply IsS83.alloc | apply IsS83.drewN | apply IsS83.drew | apply IsS83.set_1 | refine IsS83.far ?_ NB0_188.out _ | refine IsS83.far ?_ NB0_197.out _) | exact HI0.out)) (rw_ HO_198001.out) (by decide)) hk (fun _ h => h.2)) (fun _ h => h.1))
                  have n2_ := Aside0.mk (KeepBut.blk hk (g' := gb188) (o := .cells #[.slice none 0 0, .slice none 0 0, .int .i64 0, .int .i64 0] 26 (0, 0)) (bw_ BK188.out) NB188_0.out (by simp))
                  have n3_ := Aside0.mk (KeepBut.blk hk (g' := gb197) (o := .cells #[u198000, u198001, .int .i64 x198002_3, .int .i64 x198003_3] 26 (0, 0)) (bw_ BK197.out) NB197_0.out (by simp))
                  have n4_ := Aside0.mk (Kd.qS (Kd.zM (IsS83.apart (show IsS83 w0 _ g s0_0 t246 from by repeat (first | (with_reducible first | exact HI0.out | apply IsS83.alloc | apply IsS83.drewN | apply IsS83.drew | apply IsS83.set_1 | refine IsS83.far ?_ NB0_188.out _ | refine IsS83.far ?_ NB0_197.out _) | exact HI0.out)) (rw_ HO244.out) (by decide)) hk (fun _ h => h.2)) (fun _ h => h.1))
                  have n5_ := Aside0.mk (KeepBut.trans (by repeat (first | (with_reducible first | exact HK.out | apply KeepBut.set_ | apply qM | apply qP | apply qN | refine qQ ?_ GW188.out _ | refine qQ ?_ GW197.out _) | exact HK.out)) hk (.inl rfl))
                  have n6_ := Aside0.mk (hb)
                  have n7_ := Aside0.mk (hi)
                  clear HO_198000
                  clear HO_198001
                  clear BK188
                  clear BK197
                  clear HO244
                  clear HK
                  clear HB
                  clear HI0
                  have HO_198000 := n0_
                  have HO_198001 := n1_
                  have BK188 := n2_
                  have BK197 := n3_
                  have HO244 := n4_
                  have HK := n5_
                  have HB := n6_
                  have HI0 := n7_
                  clear n0_ n1_ n2_ n3_ n4_ n5_ n6_ n7_
                  (try clear hb)
                  (try clear hb2)
                  (try clear hk)
                  (try clear hi)
                  obtain ⟨Ao62, co62, eo62⟩ := Kd.zE HO_198000.out
                  (first | subst eo62 | (injection eo62 with f1_ f2_ f3_; have f4_ := f1_.symm; have f5_ := f3_.symm; clear f1_ f2_ f3_; subst f4_; subst f5_))
                  obtain ⟨Ao63, co63, eo63⟩ := Kd.zE HO_198001.out
                  (first | subst eo63 | (injection eo63 with f1_ f2_ f3_; have f4_ := f1_.symm; have f5_ := f3_.symm; clear f1_ f2_ f3_; subst f4_; subst f5_))
                  refine hK.out _ _ ⟨(qA BK197.out 0).trans rfl, (qA BK197.out 1).trans rfl, (qA BK197.out 2).trans rfl, (qA BK197.out 3).trans rfl⟩ (fun hHeld => ?_)
                  clear hK K
                  refine norm_ (a' := ?_) ?_ ?_
                  rotate_left
                  · show Act.put _ (some 44) _ = _
                    simp only [Act.put, List.setIfInBounds_toArray, List.set_cons_zero, List.set_cons_succ, i64_w, i32_w]
                    rfl
                  refine one_ (i := 8) (N := some 45) #[true, true, true, true, true, true, true, true, true, false, false, false, false] rfl rfl (zT HT_.out (by kernel_rfl)) (by decide) (fun K hK => ?_)
                  refine goes_ Try.func43 (by kernel_rfl) rfl #[.agg #[.slice Ao62 x198000_3.length co62, .slice Ao63 x198001_3.length co63, .int .i64 x198002_3, .int .i64 x198003_3], .int .i64 t245, .string t247] (by rfl) rfl rfl (by (try simp only [List.map_toArray, List.map_cons, List.map_nil]); first | done | rfl | (simp only [List.length_drop, List.length_take]; rfl)) ?_
                  with_reducible refine (spec_l7Write.calls k3 _ _ x198000_3 _ _ x198001_3 x198002_3 x198003_3 t245 t247 t249 t252 t255 t256 t257 _ ?side1 ?side2 ?side3 ?side4 A54.out).mono ?_
                  (case side1 => repeat (first | exact (Kd.qT HO_198000.out).2.2 | (with_reducible refine Kd.qX ?_ _) | (with_reducible refine Kd.qY ?_ _) | (with_reducible refine Kd.zC ?_)))
                  (case side2 => exact (Kd.qT HO_198000.out).2.1)
                  (case side3 => repeat (first | exact (Kd.qT HO_198001.out).2.2 | (with_reducible refine Kd.qX ?_ _) | (with_reducible refine Kd.qY ?_ _) | (with_reducible refine Kd.zC ?_)))
                  (case side4 => exact (Kd.qT HO_198001.out).2.1)
                  rintro e w64 ⟨v250, v253, rfl, ho0, ho1, hb⟩
                  refine ⟨_, rfl, ?_⟩
                  have n0_ := Aside0.mk (Kd.zO (rw_ HO_198000.out) (Kd.zP ho0) hb)
                  have n1_ := Aside0.mk (Kd.zO (rw_ HO_198001.out) (Kd.zP ho1) hb)
                  have n2_ := Aside0.mk (Kd.qZ (rw_ HO244.out) hb)
                  have n3_ := Aside0.mk (Kd.zJ (Kd.zR ho0 (Kd.R_lt (rw_ HO_198000.out))) (zG (w := w) (g := g) (row := none) (by repeat (first | (with_reducible first | exact HK.out | apply KeepBut.set_ | apply qM | apply qP | apply qN | refine qQ ?_ GW188.out _ | refine qQ ?_ GW197.out _) | exact HK.out))))
                  have n4_ := Aside0.mk (Kd.zJ (Kd.zR ho1 (Kd.R_lt (rw_ HO_198001.out))) (zG (w := w) (g := g) (row := none) (by repeat (first | (with_reducible first | exact HK.out | apply KeepBut.set_ | apply qM | apply qP | apply qN | refine qQ ?_ GW188.out _ | refine qQ ?_ GW197.out _) | exact HK.out))))
                  have n5_ := Aside0.mk (qJ (g := gb188) (o := .cells #[.slice none 0 0, .slice none 0 0, .int .i64 0, .int .i64 0] 26 (0, 0)) (bw_ BK188.out) hb)
                  have n6_ := Aside0.mk (qJ (g := gb197) (o := .cells #[.slice Ao62 x198000_3.length co62, .slice Ao63 x198001_3.length co63, .int .i64 x198002_3, .int .i64 x198003_3] 26 (0, 0)) (bw_ BK197.out) hb)
                  have n7_ := Aside0.mk (IsS83.below (by repeat (first | (with_reducible first | exact HI0.out | apply IsS83.alloc | apply IsS83.drewN | apply IsS83.drew | apply IsS83.set_1 | refine IsS83.far ?_ NB0_188.out _ | refine IsS83.far ?_ NB0_197.out _) | exact HI0.out)) hb)
                  have n8_ := Aside0.mk (KeepBut.trans (by repeat (first | (with_reducible first | exact HK.out | apply KeepBut.set_ | apply qM | apply qP | apply qN | refine qQ ?_ GW188.out _ | refine qQ ?_ GW197.out _) | exact HK.out)) (KeepBut.of_below hb g none) (.inl rfl))
                  have n9_ := Aside0.mk (qL (by repeat (first | (with_reducible first | exact HB.out | apply qF | apply qB | apply qE | refine qD ?_ (IsS83.ge HI0.out) | refine qD ?_ GE188.out | refine qD ?_ GE197.out) | exact HB.out)) hb)
                  clear HO_198000
                  clear HO_198001
                  clear HO244
                  clear BK188
                  clear BK197
                  clear HI0
                  clear HK
                  clear HB
                  have HO_198000 := n0_
                  have HO_198001 := n1_
                  have HO244 := n2_
                  have HO251 := n3_
                  have HO254 := n4_
                  have BK188 := n5_
                  have BK197 := n6_
                  have HI0 := n7_
                  have HK := n8_
                  have HB := n9_
                  clear n0_ n1_ n2_ n3_ n4_ n5_ n6_ n7_ n8_ n9_
                  (try clear hb)
                  (try clear hb2)
                  (try clear hk)
                  (try clear hi)
                  (try clear ho0)
                  (try clear ho1)
                  obtain ⟨Ao65, co65, eo65⟩ := Kd.zE HO251.out
                  (first | subst eo65 | (injection eo65 with f1_ f2_ f3_; have f4_ := f1_.symm; have f5_ := f3_.symm; clear f1_ f2_ f3_; subst f4_; subst f5_))
                  obtain ⟨Ao67, co67, eo67⟩ := Kd.zE HO254.out
                  (first | subst eo67 | (injection eo67 with f1_ f2_ f3_; have f4_ := f1_.symm; have f5_ := f3_.symm; clear f1_ f2_ f3_; subst f4_; subst f5_))
                  refine hK.out _ _ ⟨(qA BK197.out 0).trans rfl, (qA BK197.out 1).trans rfl, (qA BK197.out 2).trans rfl, (qA BK197.out 3).trans rfl⟩ (fun hHeld => ?_)
                  clear hK K
                  refine norm_ (a' := ?_) ?_ ?_
                  rotate_left
                  · show Act.put _ (some 45) _ = _
                    simp only [Act.put, List.setIfInBounds_toArray, List.set_cons_zero, List.set_cons_succ, i64_w, i32_w]
                    rfl
                  refine pure_ (i := 9) (N := some 36) (v := ?_) (a' := ?_) #[true, true, true, true, true, true, true, true, true, true, false, false, false] rfl rfl (zB HT_.out (by kernel_rfl)) (fun _ _ _ h => h) (Or.inl ⟨by rfl, ?_⟩) ?_ ?_
                  rotate_left
                  · intro w'
                    go_simp
                    with_reducible rfl
                  rotate_left
                  · simp only [Act.put, List.setIfInBounds_toArray, List.set_cons_zero, List.set_cons_succ, i64_w, i32_w]
                    rfl
                  refine pure_ (i := 10) (N := some 46) (v := ?_) (a' := ?_) #[true, true, true, true, true, true, true, true, true, true, true, false, false] rfl rfl (zB HT_.out (by kernel_rfl)) (fun _ _ _ h => h) (Or.inl ⟨by rfl, ?_⟩) ?_ ?_
                  rotate_left
                  · intro w'
                    go_simp
                    with_reducible rfl
                  rotate_left
                  · simp only [Act.put, List.setIfInBounds_toArray, List.set_cons_zero, List.set_cons_succ, i64_w, i32_w]
                    rfl
                  refine pure_ (i := 11) (N := some 47) (v := ?_) (a' := ?_) #[true, true, true, true, true, true, true, true, true, true, true, true, false] rfl rfl (zB HT_.out (by kernel_rfl)) (fun _ _ _ h => h) (Or.inl ⟨by rfl, ?_⟩) ?_ ?_
                  rotate_left
                  · intro w'
                    go_simp
                    with_reducible rfl
                  rotate_left
                  · simp only [Act.put, List.setIfInBounds_toArray, List.set_cons_zero, List.set_cons_succ, i64_w, i32_w]
                    rfl
                  refine last_ (i := 12) (N := none) #[true, true, true, true, true, true, true, true, true, true, true, true, true] rfl rfl (zT HT_.out (by kernel_rfl)) (by decide) (fun K hK => ?_)
                  have hs66 : w64.cell? ⟨gb197, 0, none⟩ = some (.slice Ao62 x198000_3.length co62) := (qA BK197.out 0).trans rfl
                  have hfs66 := qC BK197.out 0
                  have hns66_0 := NB188_197.out
                  have hms66_0 := NB197_188.out
                  have hs68 : w64.cell? ⟨gb197, 1, none⟩ = some (.slice Ao63 x198001_3.length co63) := (qA BK197.out 1).trans rfl
                  have hfs68 := qC BK197.out 1
                  have hns68_0 := NB188_197.out
                  have hms68_0 := NB197_188.out
                  have hs69 : w64.cell? ⟨gb197, 2, none⟩ = some (.int .i64 x198002_3) := (qA BK197.out 2).trans rfl
                  have hfs69 := qC BK197.out 2
                  have hns69_0 := NB188_197.out
                  have hms69_0 := NB197_188.out
                  have hs70 : w64.cell? ⟨gb197, 3, none⟩ = some (.int .i64 x198003_3) := (qA BK197.out 3).trans rfl
                  have hfs70 := qC BK197.out 3
                  have hns70_0 := NB188_197.out
                  have hms70_0 := NB197_188.out
                  refine skip_ (w1 := ?_) (by rfl) rfl ?_ ?_
                  rotate_left
                  · go_simp
                    rfl
                  refine hK.out _ _ ?_
                  clear hK K
                  refine done_ (done_of HT_.out (by kernel_rfl)) ?_
                  try go_wp2
                  go_roundg k3
                  case measure => have := HK1.out; have := HJ34.out; have := HK3.out; omega
                  case rel => exact ⟨(wrap64 (x5_3 - 1)), (t248), (t249), (t252), (t255), (t256), (.slice Ao65 t249.length co65), (.slice Ao67 t252.length co67), (by first | rfl | (simp; done) | (simp [*]; done)), H', ⟨by have := HK1.out; have := HJ34.out; have := HK3.out; omega⟩, ⟨by (with_reducible repeat (first | apply Kd.zI | apply Kd.zH | apply Kd.zD)); exact Kd.qS (Kd.R_far (p := ⟨gb197, 3, none⟩) (Kd.R_far (p := ⟨gb197, 2, none⟩) (Kd.R_far (p := ⟨gb197, 1, none⟩) (Kd.R_far (p := ⟨gb197, 0, none⟩) (Kd.qW HO251.out BK197.out (by decide)) (fun _ hk => hk.2) (.slice Ao65 t249.length co65)) (fun _ hk => hk.2) (.slice Ao67 t252.length co67)) (fun _ hk => hk.2) (.int .i64 t255)) (fun _ hk => hk.2) (.int .i64 t256)) (fun _ hk => trivial)⟩, ⟨by (with_reducible repeat (first | apply Kd.zI | apply Kd.zH | apply Kd.zD)); exact Kd.qS (Kd.R_far (p := ⟨gb197, 3, none⟩) (Kd.R_far (p := ⟨gb197, 2, none⟩) (Kd.R_far (p := ⟨gb197, 1, none⟩) (Kd.R_far (p := ⟨gb197, 0, none⟩) (Kd.qW HO254.out BK197.out (by decide)) (fun _ hk => hk.2) (.slice Ao65 t249.length co65)) (fun _ hk => hk.2) (.slice Ao67 t252.length co67)) (fun _ hk => hk.2) (.int .i64 t255)) (fun _ hk => hk.2) (.int .i64 t256)) (fun _ hk => trivial)⟩, ⟨by (with_reducible repeat (first | refine qH ?_ _ | refine qI ?_ | refine qG ?_ _)); refine qR ?_ NB188_197.out _; (with_reducible repeat (first | refine qH ?_ _ | refine qI ?_ | refine qG ?_ _)); refine qR ?_ NB188_197.out _; (with_reducible repeat (first | refine qH ?_ _ | refine qI ?_ | refine qG ?_ _)); refine qR ?_ NB188_197.out _; (with_reducible repeat (first | refine qH ?_ _ | refine qI ?_ | refine qG ?_ _)); refine qR ?_ NB188_197.out _; (with_reducible repeat (first | refine qH ?_ _ | refine qI ?_ | refine qG ?_ _)); exact BK188.out⟩, ⟨by (with_reducible repeat (first | refine qH ?_ _ | refine qI ?_ | refine qG ?_ _)); refine qO (cs := #[.slice Ao65 t249.length co65, .slice Ao67 t252.length co67, .int .i64 t255, .int .i64 x198003_3]) ?_ 3 _ rfl; (with_reducible repeat (first | refine qH ?_ _ | refine qI ?_ | refine qG ?_ _)); refine qO (cs := #[.slice Ao65 t249.length co65, .slice Ao67 t252.length co67, .int .i64 x198002_3, .int .i64 x198003_3]) ?_ 2 _ rfl; (with_reducible repeat (first | refine qH ?_ _ | refine qI ?_ | refine qG ?_ _)); refine qO (cs := #[.slice Ao65 t249.length co65, .slice Ao63 x198001_3.length co63, .int .i64 x198002_3, .int .i64 x198003_3]) ?_ 1 _ rfl; (with_reducible repeat (first | refine qH ?_ _ | refine qI ?_ | refine qG ?_ _)); refine qO (cs := #[.slice Ao62 x198000_3.length co62, .slice Ao63 x198001_3.length co63, .int .i64 x198002_3, .int .i64 x198003_3]) ?_ 0 _ rfl; (with_reducible repeat (first | refine qH ?_ _ | refine qI ?_ | refine qG ?_ _)); exact BK197.out⟩, ⟨by repeat (first | (with_reducible first | exact HI0.out | apply IsS83.alloc | apply IsS83.drewN | apply IsS83.drew | apply IsS83.set_1 | refine IsS83.far ?_ NB0_188.out _ | refine IsS83.far ?_ NB0_197.out _) | exact HI0.out)⟩, ⟨by repeat (first | (with_reducible first | exact HK.out | apply KeepBut.set_ | apply qM | apply qP | apply qN | refine qQ ?_ GW188.out _ | refine qQ ?_ GW197.out _) | exact HK.out)⟩, ⟨by repeat (first | (with_reducible first | exact HB.out | apply qF | apply qB | apply qE | refine qD ?_ (IsS83.ge HI0.out) | refine qD ?_ GE188.out | refine qD ?_ GE197.out) | exact HB.out)⟩⟩
                · rw [if_neg c50] at H
                  have c50b0 : decide (0 < x5_3) = false := decide_eq_false c50
                  clear c50
                  obtain ⟨y230, hy230⟩ : ∃ y_ : List Int, y_ = (([(-1), (-1), (-1), 0, 1, 3] : List Int)) := ⟨_, rfl⟩
                  replace H : ((spec_l1Rd_one.f k3 s0_0 x1001_3 y230).bind fun bt233 => ((spec_l1Rd_one.f k3 s0_0 bt233.2 (([(-1), (-1), (-1), 0, 1, 2] : List Int))).bind fun bt238 => (some (x198000_3, x198001_3, bt233.1, bt238.1, bt238.2)))) = some (r1, r2, r3, r4, r5) := by first | (rw [hy230]; with_reducible exact H) | (have H2_ := (Option.bind_some _ _).symm.trans H; rw [hy230]; with_reducible exact H2_) | (have H2_ := (Option.bind_some _ _).symm.trans H; with_reducible exact H2_) | with_reducible exact H | (rw [hy230]; exact H) | exact H
                  have Ny230 := Aside0.mk hy230
                  clear hy230
                  replace H := Option.bind_eq_some_iff.mp H
                  obtain ⟨⟨t233, t234⟩, A710, H⟩ := H
                  replace H : ((spec_l1Rd_one.f k3 s0_0 t234 (([(-1), (-1), (-1), 0, 1, 2] : List Int))).bind fun bt238 => (some (x198000_3, x198001_3, t233, bt238.1, bt238.2))) = some (r1, r2, r3, r4, r5) := H
                  have A71 := Aside0.mk A710
                  clear A710
                  obtain ⟨y235, hy235⟩ : ∃ y_ : List Int, y_ = (([(-1), (-1), (-1), 0, 1, 2] : List Int)) := ⟨_, rfl⟩
                  replace H : ((spec_l1Rd_one.f k3 s0_0 t234 y235).bind fun bt238 => (some (x198000_3, x198001_3, t233, bt238.1, bt238.2))) = some (r1, r2, r3, r4, r5) := by first | (rw [hy235]; with_reducible exact H) | (have H2_ := (Option.bind_some _ _).symm.trans H; rw [hy235]; with_reducible exact H2_) | (have H2_ := (Option.bind_some _ _).symm.trans H; with_reducible exact H2_) | with_reducible exact H | (rw [hy235]; exact H) | exact H
                  have Ny235 := Aside0.mk hy235
                  clear hy235
                  replace H := Option.bind_eq_some_iff.mp H
                  obtain ⟨⟨t238, t239⟩, A720, H⟩ := H
                  replace H : (some (x198000_3, x198001_3, t233, t238, t239)) = some (r1, r2, r3, r4, r5) := H
                  have A72 := Aside0.mk A720
                  clear A720
                  simp only [Option.some.injEq, Prod.mk.injEq] at H
                  obtain ⟨rfl, rfl, rfl, rfl, rfl⟩ := H
                  go_wp2_with (first | ((with_reducible refine zA (N := 49) rfl ?_); refine Kd.R_lit (Kd.int .i64) _ 3 ?hg (N := 49) ?hd (xs := ([(-1), (-1), (-1), 0, 1, 3] : List Int)) (inner := [.int .i64 (-1), .int .i64 (-1), .int .i64 (-1), .int .i64 0, .int .i64 1, .int .i64 3]) (ok := fun _ => True) (okp := fun _ => True) ?hr ?hp (fun _ hk => hk) trivial (Below.refl _ _) (Nat.le_refl _) (by simp) ?_; (case hd => rfl); (case hg => rfl); (case hr => first | (go_simp; done) | (go_simp; rfl)); (case hp => exact (Reps.one (show Kd.M (Kd.int .i64) _ _ _ (-1) [.int .i64 (-1)] from rfl) (Reps.one (show Kd.M (Kd.int .i64) _ _ _ (-1) [.int .i64 (-1)] from rfl) (Reps.one (show Kd.M (Kd.int .i64) _ _ _ (-1) [.int .i64 (-1)] from rfl) (Reps.one (show Kd.M (Kd.int .i64) _ _ _ 0 [.int .i64 0] from rfl) (Reps.one (show Kd.M (Kd.int .i64) _ _ _ 1 [.int .i64 1] from rfl) (Reps.one (show Kd.M (Kd.int .i64) _ _ _ 3 [.int .i64 3] from rfl) (Reps.none _ _)))))))); intro v231 w73 ho74 hb hg_ hnew_; clear hg_ hnew_; (first | rw [← Ny230.out] at ho74 | (simp only [Int.reduceToNat] at ho74; rw [← Ny230.out] at ho74)); have n0_ := Aside0.mk (Kd.qZ (rw_ HO_198000.out) hb); have n1_ := Aside0.mk (Kd.qZ (rw_ HO_198001.out) hb); have n2_ := Aside0.mk (Kd.zJ ho74 (zG (w := w) (g := g) (row := none) (by repeat (first | (with_reducible first | exact HK.out | apply KeepBut.set_ | apply qM | apply qP | apply qN | refine qQ ?_ GW188.out _ | refine qQ ?_ GW197.out _) | exact HK.out)))); have n3_ := Aside0.mk (qJ (g := gb188) (o := .cells #[.slice none 0 0, .slice none 0 0, .int .i64 0, .int .i64 0] 26 (0, 0)) (bw_ BK188.out) hb); have n4_ := Aside0.mk (qJ (g := gb197) (o := .cells #[u198000, u198001, .int .i64 x198002_3, .int .i64 x198003_3] 26 (0, 0)) (bw_ BK197.out) hb); have n5_ := Aside0.mk (IsS83.below (by repeat (first | (with_reducible first | exact HI0.out | apply IsS83.alloc | apply IsS83.drewN | apply IsS83.drew | apply IsS83.set_1 | refine IsS83.far ?_ NB0_188.out _ | refine IsS83.far ?_ NB0_197.out _) | exact HI0.out)) hb); have n6_ := Aside0.mk (KeepBut.trans (by repeat (first | (with_reducible first | exact HK.out | apply KeepBut.set_ | apply qM | apply qP | apply qN | refine qQ ?_ GW188.out _ | refine qQ ?_ GW197.out _) | exact HK.out)) (KeepBut.of_below hb g none) (.inl rfl)); have n7_ := Aside0.mk (qL (by repeat (first | (with_reducible first | exact HB.out | apply qF | apply qB | apply qE | refine qD ?_ (IsS83.ge HI0.out) | refine qD ?_ GE188.out | refine qD ?_ GE197.out) | exact HB.out)) hb); clear HO_198000; clear HO_198001; clear BK188; clear BK197; clear HI0; clear HK; clear HB; have HO_198000 := n0_; have HO_198001 := n1_; have HO232 := n2_; have BK188 := n3_; have BK197 := n4_; have HI0 := n5_; have HK := n6_; have HB := n7_; clear n0_ n1_ n2_ n3_ n4_ n5_ n6_ n7_; clear hb ho74; obtain ⟨Ao75, co75, eo75⟩ := Kd.zE HO232.out; subst eo75) | ((with_reducible refine qV (f := 40) rfl ?_); refine zL (some 50) rfl rfl Try.func40 (by kernel_rfl) rfl #[.pointer (some ⟨g, 0, none⟩), .slice Ao75 y230.length co75] rfl (by (try simp only [List.map_toArray, List.map_cons, List.map_nil]); first | done | rfl | (simp only [List.length_drop, List.length_take]; rfl)) ?_; (with_reducible refine (spec_l1Rd_one.calls k3 g s0_0 x1001_3 _ _ y230 t233 t234 w0 _ ?side1 ?side2 ?side3 ?side4 ?side5 A71.out).mono ?_); (case side1 => repeat (first | (with_reducible first | exact HI0.out | apply IsS83.alloc | apply IsS83.drewN | apply IsS83.drew | apply IsS83.set_1 | refine IsS83.far ?_ NB0_188.out _ | refine IsS83.far ?_ NB0_197.out _) | exact HI0.out)); (case side2 => repeat (first | (with_reducible first | exact HB.out | apply qF | apply qB | apply qE | refine qD ?_ (IsS83.ge HI0.out) | refine qD ?_ GE188.out | refine qD ?_ GE197.out) | exact HB.out)); (case side3 => repeat (first | exact (Kd.qT HO232.out).2.2 | (with_reducible refine Kd.qX ?_ _) | (with_reducible refine Kd.qY ?_ _) | (with_reducible refine Kd.zC ?_))); (case side4 => exact (Kd.qT HO232.out).2.1); (case side5 => exact far_slice (IsS83.own_ne HI0.out HO232.out (by decide))); rintro e w76 ⟨rfl, hi, hb, hk⟩; refine ⟨_, rfl, ?_⟩; have n0_ := Aside0.mk (Kd.qS (Kd.zM (IsS83.apart (show IsS83 w0 _ g s0_0 x1001_3 from by repeat (first | (with_reducible first | exact HI0.out | apply IsS83.alloc | apply IsS83.drewN | apply IsS83.drew | apply IsS83.set_1 | refine IsS83.far ?_ NB0_188.out _ | refine IsS83.far ?_ NB0_197.out _) | exact HI0.out)) (rw_ HO_198000.out) (by decide)) hk (fun _ h => h.2)) (fun _ h => h.1)); have n1_ := Aside0.mk (Kd.qS (Kd.zM (IsS83.apart (show IsS83 w0 _ g s0_0 x1001_3 from by repeat (first | (with_reducible first | exact HI0.out | apply IsS83.alloc | apply IsS83.drewN | apply IsS83.drew | apply IsS83.set_1 | refine IsS83.far ?_ NB0_188.out _ | refine IsS83.far ?_ NB0_197.out _) | exact HI0.out)) (rw_ HO_198001.out) (by decide)) hk (fun _ h => h.2)) (fun _ h => h.1)); have n2_ := Aside0.mk (KeepBut.blk hk (g' := gb188) (o := .cells #[.slice none 0 0, .slice none 0 0, .int .i64 0, .int .i64 0] 26 (0, 0)) (bw_ BK188.out) NB188_0.out (by simp)); have n3_ := Aside0.mk (KeepBut.blk hk (g' := gb197) (o := .cells #[u198000, u198001, .int .i64 x198002_3, .int .i64 x198003_3] 26 (0, 0)) (bw_ BK197.out) NB197_0.out (by simp)); have n4_ := Aside0.mk (Kd.qS (Kd.zM (IsS83.apart (show IsS83 w0 _ g s0_0 x1001_3 from by repeat (first | (with_reducible first | exact HI0.out | apply IsS83.alloc | apply IsS83.drewN | apply IsS83.drew | apply IsS83.set_1 | refine IsS83.far ?_ NB0_188.out _ | refine IsS83.far ?_ NB0_197.out _) | exact HI0.out)) (rw_ HO232.out) (by decide)) hk (fun _ h => h.2)) (fun _ h => h.1)); have n5_ := Aside0.mk (KeepBut.trans (by repeat (first | (with_reducible first | exact HK.out | apply KeepBut.set_ | apply qM | apply qP | apply qN | refine qQ ?_ GW188.out _ | refine qQ ?_ GW197.out _) | exact HK.out)) hk (.inl rfl)); have n6_ := Aside0.mk (hb); have n7_ := Aside0.mk (hi); clear HO_198000; clear HO_198001; clear BK188; clear BK197; clear HO232; clear HK; clear HB; clear HI0; have HO_198000 := n0_; have HO_198001 := n1_; have BK188 := n2_; have BK197 := n3_; have HO232 := n4_; have HK := n5_; have HB := n6_; have HI0 := n7_; clear n0_ n1_ n2_ n3_ n4_ n5_ n6_ n7_; (try clear hb); (try clear hb2); (try clear hk); (try clear hi); have hnb77 := NB197_188.out; have hnc77 := NB188_197.out; have hnb78 := NB197_0.out; have hnc78 := NB0_197.out; have hcz79_0 : w76.cell? ⟨gb197, 0, none⟩ = some (u198000) := (qA BK197.out 0).trans rfl; have hcz79_1 : w76.cell? ⟨gb197, 1, none⟩ = some (u198001) := (qA BK197.out 1).trans rfl; have hcz79_2 : w76.cell? ⟨gb197, 2, none⟩ = some (.int .i64 x198002_3) := (qA BK197.out 2).trans rfl; have hcz79_3 : w76.cell? ⟨gb197, 3, none⟩ = some (.int .i64 x198003_3) := (qA BK197.out 3).trans rfl; have hfz79_0 := qC BK197.out 0; have hfz79_1 := qC BK197.out 1; have hfz79_2 := qC BK197.out 2; have hfz79_3 := qC BK197.out 3) | ((with_reducible refine zA (N := 53) rfl ?_); refine Kd.R_lit (Kd.int .i64) _ 3 ?hg (N := 53) ?hd (xs := ([(-1), (-1), (-1), 0, 1, 2] : List Int)) (inner := [.int .i64 (-1), .int .i64 (-1), .int .i64 (-1), .int .i64 0, .int .i64 1, .int .i64 2]) (ok := fun _ => True) (okp := fun _ => True) ?hr ?hp (fun _ hk => hk) trivial (Below.refl _ _) (Nat.le_refl _) (by simp) ?_; (case hd => rfl); (case hg => rfl); (case hr => first | (go_simp; done) | (go_simp; rfl)); (case hp => exact (Reps.one (show Kd.M (Kd.int .i64) _ _ _ (-1) [.int .i64 (-1)] from rfl) (Reps.one (show Kd.M (Kd.int .i64) _ _ _ (-1) [.int .i64 (-1)] from rfl) (Reps.one (show Kd.M (Kd.int .i64) _ _ _ (-1) [.int .i64 (-1)] from rfl) (Reps.one (show Kd.M (Kd.int .i64) _ _ _ 0 [.int .i64 0] from rfl) (Reps.one (show Kd.M (Kd.int .i64) _ _ _ 1 [.int .i64 1] from rfl) (Reps.one (show Kd.M (Kd.int .i64) _ _ _ 2 [.int .i64 2] from rfl) (Reps.none _ _)))))))); intro v236 w80 ho81 hb hg_ hnew_; clear hg_ hnew_; (first | rw [← Ny235.out] at ho81 | (simp only [Int.reduceToNat] at ho81; rw [← Ny235.out] at ho81)); have n0_ := Aside0.mk (Kd.qZ (rw_ ((Kd.qS (Kd.R_far (p := ⟨gb197, 2, none⟩) (Kd.qW HO_198000.out BK197.out (by decide)) (fun _ hk => hk.2) (.int .i64 t233)) (fun _ h_ => h_.1)))) hb); have n1_ := Aside0.mk (Kd.qZ (rw_ ((Kd.qS (Kd.R_far (p := ⟨gb197, 2, none⟩) (Kd.qW HO_198001.out BK197.out (by decide)) (fun _ hk => hk.2) (.int .i64 t233)) (fun _ h_ => h_.1)))) hb); have n2_ := Aside0.mk (Kd.zO (rw_ ((Kd.qS (Kd.R_far (p := ⟨gb197, 2, none⟩) (Kd.qW HO232.out BK197.out (by decide)) (fun _ hk => hk.2) (.int .i64 t233)) (fun _ h_ => h_.1)))) (Kd.zP ho81) hb); have n3_ := Aside0.mk (Kd.zJ (Kd.zR ho81 (Kd.R_lt (rw_ ((Kd.qS (Kd.R_far (p := ⟨gb197, 2, none⟩) (Kd.qW HO232.out BK197.out (by decide)) (fun _ hk => hk.2) (.int .i64 t233)) (fun _ h_ => h_.1)))))) (zG (w := w) (g := g) (row := none) (by repeat (first | (with_reducible first | exact HK.out | apply KeepBut.set_ | apply qM | apply qP | apply qN | refine qQ ?_ GW188.out _ | refine qQ ?_ GW197.out _) | exact HK.out)))); have n4_ := Aside0.mk (qJ (g := gb188) (o := .cells #[.slice none 0 0, .slice none 0 0, .int .i64 0, .int .i64 0] 26 (0, 0)) (by (with_reducible repeat (first | refine qH ?_ _ | refine qI ?_ | refine qG ?_ _)); refine qR ?_ NB188_197.out _; (with_reducible repeat (first | refine qH ?_ _ | refine qI ?_ | refine qG ?_ _)); exact BK188.out) hb); have n5_ := Aside0.mk (qJ (g := gb197) (o := .cells #[u198000, u198001, .int .i64 t233, .int .i64 x198003_3] 26 (0, 0)) (by (with_reducible repeat (first | refine qH ?_ _ | refine qI ?_ | refine qG ?_ _)); refine qO (cs := #[u198000, u198001, .int .i64 x198002_3, .int .i64 x198003_3]) ?_ 2 _ rfl; (with_reducible repeat (first | refine qH ?_ _ | refine qI ?_ | refine qG ?_ _)); exact BK197.out) hb); have n6_ := Aside0.mk (IsS83.below (show IsS83 w0 (w76.setCell ⟨gb197, 2, none⟩ (.int .i64 t233)) g s0_0 t234 from by repeat (first | (with_reducible first | exact HI0.out | apply IsS83.alloc | apply IsS83.drewN | apply IsS83.drew | apply IsS83.set_1 | refine IsS83.far ?_ NB0_188.out _ | refine IsS83.far ?_ NB0_197.out _) | exact HI0.out)) hb); have n7_ := Aside0.mk (KeepBut.trans (by repeat (first | (with_reducible first | exact HK.out | apply KeepBut.set_ | apply qM | apply qP | apply qN | refine qQ ?_ GW188.out _ | refine qQ ?_ GW197.out _) | exact HK.out)) (KeepBut.of_below hb g none) (.inl rfl)); have n8_ := Aside0.mk (qL (by repeat (first | (with_reducible first | exact HB.out | apply qF | apply qB | apply qE | refine qD ?_ (IsS83.ge HI0.out) | refine qD ?_ GE188.out | refine qD ?_ GE197.out) | exact HB.out)) hb); clear HO_198000; clear HO_198001; clear HO232; clear BK188; clear BK197; clear HI0; clear HK; clear HB; have HO_198000 := n0_; have HO_198001 := n1_; have HO232 := n2_; have HO237 := n3_; have BK188 := n4_; have BK197 := n5_; have HI0 := n6_; have HK := n7_; have HB := n8_; clear n0_ n1_ n2_ n3_ n4_ n5_ n6_ n7_ n8_; clear hb ho81; obtain ⟨Ao82, co82, eo82⟩ := Kd.zE HO237.out; subst eo82) | ((with_reducible refine qV (f := 40) rfl ?_); refine zL (some 54) rfl rfl Try.func40 (by kernel_rfl) rfl #[.pointer (some ⟨g, 0, none⟩), .slice Ao82 y235.length co82] rfl (by (try simp only [List.map_toArray, List.map_cons, List.map_nil]); first | done | rfl | (simp only [List.length_drop, List.length_take]; rfl)) ?_; (with_reducible refine (spec_l1Rd_one.calls k3 g s0_0 t234 _ _ y235 t238 t239 w0 _ ?side1 ?side2 ?side3 ?side4 ?side5 A72.out).mono ?_); (case side1 => repeat (first | (with_reducible first | exact HI0.out | apply IsS83.alloc | apply IsS83.drewN | apply IsS83.drew | apply IsS83.set_1 | refine IsS83.far ?_ NB0_188.out _ | refine IsS83.far ?_ NB0_197.out _) | exact HI0.out)); (case side2 => repeat (first | (with_reducible first | exact HB.out | apply qF | apply qB | apply qE | refine qD ?_ (IsS83.ge HI0.out) | refine qD ?_ GE188.out | refine qD ?_ GE197.out) | exact HB.out)); (case side3 => repeat (first | exact (Kd.qT HO237.out).2.2 | (with_reducible refine Kd.qX ?_ _) | (with_reducible refine Kd.qY ?_ _) | (with_reducible refine Kd.zC ?_))); (case side4 => exact (Kd.qT HO237.out).2.1); (case side5 => exact far_slice (IsS83.own_ne HI0.out HO237.out (by decide))); rintro e w83 ⟨rfl, hi, hb, hk⟩; refine ⟨_, rfl, ?_⟩; have n0_ := Aside0.mk (Kd.qS (Kd.zM (IsS83.apart (show IsS83 w0 _ g s0_0 t234 from by repeat (first | (with_reducible first | exact HI0.out | apply IsS83.alloc | apply IsS83.drewN | apply IsS83.drew | apply IsS83.set_1 | refine IsS83.far ?_ NB0_188.out _ | refine IsS83.far ?_ NB0_197.out _) | exact HI0.out)) (rw_ HO_198000.out) (by decide)) hk (fun _ h => h.2)) (fun _ h => h.1)); have n1_ := Aside0.mk (Kd.qS (Kd.zM (IsS83.apart (show IsS83 w0 _ g s0_0 t234 from by repeat (first | (with_reducible first | exact HI0.out | apply IsS83.alloc | apply IsS83.drewN | apply IsS83.drew | apply IsS83.set_1 | refine IsS83.far ?_ NB0_188.out _ | refine IsS83.far ?_ NB0_197.out _) | exact HI0.out)) (rw_ HO_198001.out) (by decide)) hk (fun _ h => h.2)) (fun _ h => h.1)); have n2_ := Aside0.mk (KeepBut.blk hk (g' := gb188) (o := .cells #[.slice none 0 0, .slice none 0 0, .int .i64 0, .int .i64 0] 26 (0, 0)) (bw_ BK188.out) NB188_0.out (by simp)); have n3_ := Aside0.mk (KeepBut.blk hk (g' := gb197) (o := .cells #[u198000, u198001, .int .i64 t233, .int .i64 x198003_3] 26 (0, 0)) (bw_ BK197.out) NB197_0.out (by simp)); have n4_ := Aside0.mk (Kd.qS (Kd.zM (IsS83.apart (show IsS83 w0 _ g s0_0 t234 from by repeat (first | (with_reducible first | exact HI0.out | apply IsS83.alloc | apply IsS83.drewN | apply IsS83.drew | apply IsS83.set_1 | refine IsS83.far ?_ NB0_188.out _ | refine IsS83.far ?_ NB0_197.out _) | exact HI0.out)) (rw_ HO232.out) (by decide)) hk (fun _ h => h.2)) (fun _ h => h.1)); have n5_ := Aside0.mk (Kd.qS (Kd.zM (IsS83.apart (show IsS83 w0 _ g s0_0 t234 from by repeat (first | (with_reducible first | exact HI0.out | apply IsS83.alloc | apply IsS83.drewN | apply IsS83.drew | apply IsS83.set_1 | refine IsS83.far ?_ NB0_188.out _ | refine IsS83.far ?_ NB0_197.out _) | exact HI0.out)) (rw_ HO237.out) (by decide)) hk (fun _ h => h.2)) (fun _ h => h.1)); have n6_ := Aside0.mk (KeepBut.trans (by repeat (first | (with_reducible first | exact HK.out | apply KeepBut.set_ | apply qM | apply qP | apply qN | refine qQ ?_ GW188.out _ | refine qQ ?_ GW197.out _) | exact HK.out)) hk (.inl rfl)); have n7_ := Aside0.mk (hb); have n8_ := Aside0.mk (hi); clear HO_198000; clear HO_198001; clear BK188; clear BK197; clear HO232; clear HO237; clear HK; clear HB; clear HI0; have HO_198000 := n0_; have HO_198001 := n1_; have BK188 := n2_; have BK197 := n3_; have HO232 := n4_; have HO237 := n5_; have HK := n6_; have HB := n7_; have HI0 := n8_; clear n0_ n1_ n2_ n3_ n4_ n5_ n6_ n7_ n8_; (try clear hb); (try clear hb2); (try clear hk); (try clear hi); have hcz84_0 : w83.cell? ⟨gb197, 0, none⟩ = some (u198000) := (qA BK197.out 0).trans rfl; have hcz84_1 : w83.cell? ⟨gb197, 1, none⟩ = some (u198001) := (qA BK197.out 1).trans rfl; have hcz84_2 : w83.cell? ⟨gb197, 2, none⟩ = some (.int .i64 t233) := (qA BK197.out 2).trans rfl; have hcz84_3 : w83.cell? ⟨gb197, 3, none⟩ = some (.int .i64 x198003_3) := (qA BK197.out 3).trans rfl; have hfz84_0 := qC BK197.out 0; have hfz84_1 := qC BK197.out 1; have hfz84_2 := qC BK197.out 2; have hfz84_3 := qC BK197.out 3; obtain ⟨Ao85, co85, eo85⟩ := Kd.zE HO_198000.out; subst eo85; have hnb86 := NB188_0.out; have hnc86 := NB0_188.out; have hcz87_0 : w83.cell? ⟨gb188, 0, none⟩ = some (.slice none 0 0) := (qA BK188.out 0).trans rfl; have hcz87_1 : w83.cell? ⟨gb188, 1, none⟩ = some (.slice none 0 0) := (qA BK188.out 1).trans rfl; have hcz87_2 : w83.cell? ⟨gb188, 2, none⟩ = some (.int .i64 0) := (qA BK188.out 2).trans rfl; have hcz87_3 : w83.cell? ⟨gb188, 3, none⟩ = some (.int .i64 0) := (qA BK188.out 3).trans rfl; have hfz87_0 := qC BK188.out 0; have hfz87_1 := qC BK188.out 1; have hfz87_2 := qC BK188.out 2; have hfz87_3 := qC BK188.out 3; obtain ⟨Ao88, co88, eo88⟩ := Kd.zE HO_198001.out; subst eo88))
                  refine bodyPost_ret (results_cell_row rfl _ _ gb188 26 #[.slice Ao85 x198000_3.length co85, .slice Ao88 x198001_3.length co88, .int .i64 t233, .int .i64 t238] (0, 0) _ rfl (by (with_reducible repeat (first | refine qH ?_ _ | refine qI ?_ | refine qG ?_ _)); refine qO (cs := #[.slice Ao85 x198000_3.length co85, .slice Ao88 x198001_3.length co88, .int .i64 t233, .int .i64 0]) ?_ 3 _ rfl; (with_reducible repeat (first | refine qH ?_ _ | refine qI ?_ | refine qG ?_ _)); refine qO (cs := #[.slice Ao85 x198000_3.length co85, .slice Ao88 x198001_3.length co88, .int .i64 0, .int .i64 0]) ?_ 2 _ rfl; (with_reducible repeat (first | refine qH ?_ _ | refine qI ?_ | refine qG ?_ _)); refine qO (cs := #[.slice Ao85 x198000_3.length co85, .slice none 0 0, .int .i64 0, .int .i64 0]) ?_ 1 _ rfl; (with_reducible repeat (first | refine qH ?_ _ | refine qI ?_ | refine qG ?_ _)); refine qO (cs := #[.slice none 0 0, .slice none 0 0, .int .i64 0, .int .i64 0]) ?_ 0 _ rfl; (with_reducible repeat (first | refine qH ?_ _ | refine qI ?_ | refine qG ?_ _)); refine qR ?_ NB188_197.out _; (with_reducible repeat (first | refine qH ?_ _ | refine qI ?_ | refine qG ?_ _)); exact BK188.out) Try.underlying26 rfl (by kernel_rfl)) rfl ?_
                  exact ⟨_, _, by first | rfl | (simp [errW_none, errW_some] <;> rfl) | (simp [*, errW_none, errW_some] <;> rfl), by (with_reducible repeat (first | apply Kd.zI | apply Kd.zH | apply Kd.zD)); exact Kd.qS (Kd.R_far (p := ⟨gb188, 3, none⟩) (Kd.R_far (p := ⟨gb188, 2, none⟩) (Kd.R_far (p := ⟨gb188, 1, none⟩) (Kd.R_far (p := ⟨gb188, 0, none⟩) (Kd.R_far (p := ⟨gb197, 3, none⟩) (Kd.qW (Kd.qW HO_198000.out BK197.out (by decide)) BK188.out (by decide)) (fun _ hk => hk.1.2) (.int .i64 t238)) (fun _ hk => hk.2) (.slice Ao85 x198000_3.length co85)) (fun _ hk => hk.2) (.slice Ao88 x198001_3.length co88)) (fun _ hk => hk.2) (.int .i64 t233)) (fun _ hk => hk.2) (.int .i64 t238)) (fun _ hk => trivial), by (with_reducible repeat (first | apply Kd.zI | apply Kd.zH | apply Kd.zD)); exact Kd.qS (Kd.R_far (p := ⟨gb188, 3, none⟩) (Kd.R_far (p := ⟨gb188, 2, none⟩) (Kd.R_far (p := ⟨gb188, 1, none⟩) (Kd.R_far (p := ⟨gb188, 0, none⟩) (Kd.R_far (p := ⟨gb197, 3, none⟩) (Kd.qW (Kd.qW HO_198001.out BK197.out (by decide)) BK188.out (by decide)) (fun _ hk => hk.1.2) (.int .i64 t238)) (fun _ hk => hk.2) (.slice Ao85 x198000_3.length co85)) (fun _ hk => hk.2) (.slice Ao88 x198001_3.length co88)) (fun _ hk => hk.2) (.int .i64 t233)) (fun _ hk => hk.2) (.int .i64 t238)) (fun _ hk => trivial), by repeat (first | (with_reducible first | exact HI0.out | apply IsS83.alloc | apply IsS83.drewN | apply IsS83.drew | apply IsS83.set_1 | refine IsS83.far ?_ NB0_188.out _ | refine IsS83.far ?_ NB0_197.out _) | exact HI0.out), by repeat (first | (with_reducible first | exact HB.out | apply qF | apply qB | apply qE | refine qD ?_ (IsS83.ge HI0.out) | refine qD ?_ GE188.out | refine qD ?_ GE197.out) | exact HB.out), by repeat (first | (with_reducible first | exact HK.out | apply KeepBut.set_ | apply qM | apply qP | apply qN | refine qQ ?_ GW188.out _ | refine qQ ?_ GW197.out _) | exact HK.out)⟩

end Go.Proofs.Ytepihebkdnmppaa.Ai
