/- Walks of the seat's functions, written by a program of this session (xprint.py) with the kit's printer: each call comes to just what its Lean function says. -/
import Derived.Test.YtepihebkdnmppaaxAkAk0
import Derived.Test.YtepihebkdnmppaaxAkAk3
namespace Go.Proofs.Ytepihebkdnmppaa.Ak
open Go.RowKit Go.Proofs.YtepihebkdnmppaaV.PrintWords Go.Proofs.YtepihebkdnmppaaV.PrintLast Go.Proofs.YtepihebkdnmppaaV.PrintMore
attribute [local go_sem] max2_int min2_int max_two min_two xD xE max_four min_four   -- for this text's walks alone
attribute [local go_sem high] World.zQ
set_option linter.unusedVariables false
set_option linter.unusedSimpArgs false

/-! ### impl_Wait: function 66 (a contract of this session's) -/
def impl_Wait.f (l0 : List (S70)) : Option (List (S70)) := if l0.length < 5864062014805 then some l0 else none
set_option maxHeartbeats 4000000 in
set_option maxRecDepth 100000 in
theorem impl_Wait.Clone (A0 : Option Addr) (c0 : Nat) (l0 : List (S70)) (w : World) (hr0 : Kd.C k70 w A0 l0.length l0) (hc0 : l0.length ≤ c0) (h : l0.length < 5864062014805) :
    Calls Try.prog 82 #[.slice A0 l0.length c0] w fun e w' => ∃ v0_ : Value, e = .returned (v0_) ∧ Kd.R k70 70 w' w.heap.size (fun _ => True) v0_ l0 ∧ Below w.heap.size w w' := by
  have hu24 := Try.underlying24
  have HL := Aside0.mk h
  cases A0 with
  | none =>
    obtain rfl : l0 = [] := by
      rcases Nat.eq_zero_or_pos l0.length with h0 | h0
      · exact List.eq_nil_of_length_eq_zero h0
      · obtain ⟨ad, e, _⟩ := hr0.2.2 h0; cases e
    clear hr0 h
    have hq : ∀ (W : World) , (binOp .eql 24 (.slice none 0 c0) (.slice none 0 0)).run Try.prog W = .ok (.bool true) W := fun W => Lib.run_eql_slice_nil W 24 70 none 0 c0 0 0 Try.underlying24
    go_enter Try.func82, Try.ntmps82
    go_wp2
    go_ret
    exact ⟨_, rfl, Kd.R_nil _ _ _ _ _, Below.refl _ _⟩
  | some ad =>
    have HR := Aside0.mk hr0
    clear hr0 h
    have hq : ∀ (W : World) , (binOp .eql 24 (.slice (some ad) l0.length c0) (.slice none 0 0)).run Try.prog W = .ok (.bool false) W := fun W => Lib.run_eql_slice_nil W 24 70 (some ad) l0.length c0 0 0 Try.underlying24
    go_enter Try.func82, Try.ntmps82
    go_wp2_with (first | ((with_reducible refine zB (N := 5) rfl ?_); refine Kd.R_lit k70 _ 70 ?hg (N := 5) ?hd (xs := ([] : List (S70))) (inner := []) (ok := fun _ => True) (okp := fun _ => True) ?hr ?hp (fun _ hk => hk) trivial (Below.refl _ _) (Nat.le_refl _) (by simp) ?_; (case hd => rfl); (case hg => rfl); (case hr => first | (go_simp; done) | (go_simp; rfl)); (case hp => exact (Reps.none _ _)); intro v1 w1 ho1 hb1 hg_ hnew_; clear hg_ hnew_; have HO := Aside0.mk (Kd.zJ ho1 (qM (Below.refl _ _) : w.heap.size ≤ _)); have HB := Aside0.mk hb1; clear ho1 hb1) | ((with_reducible refine xH (b := .append) (xs := #[.tmp 5, .tmp 6]) rfl ?_); at_builtin; refine Kd.R_append_rows k70 (w0 := w) w.heap.size rfl (.tmp 5) (.tmp 6) 24 70 (.agg #[(.int .i64 0), (.string ⟨#[]⟩)]) 24 rfl Try.underlying24 info70 rfl (by decide) (by omega) v1 [] l0 _ _ _ (fun _ => True) (fun _ => False) rfl rfl ?aO ?aR (fun _ _ h => h) (fun _ h => h.elim) ?aF ?aB ?aS ?aL ?_; (case aR => repeat (first | exact (Kd.zI HR.out HB.out) | (with_reducible refine Kd.zC ?_ _) | (with_reducible refine Kd.zD ?_ _) | (with_reducible refine Kd.zH ?_))); (case aB => exact HB.out); (case aF => exact (fun _ _ => trivial)); (case aO => exact HO.out); (case aS => exact (qM HB.out)); (case aL => have := HL.out; simp; omega); intro v2 w2 ho hb hg hat; clear hg hat; have HO2 := Aside0.mk ho; have HB2 := Aside0.mk hb; clear ho hb))
    go_ret
    exact ⟨_, rfl, HO2.out, HB2.out⟩
set_option maxHeartbeats 4000000 in
set_option maxRecDepth 100000 in
theorem impl_Wait.calls (A0 : Option Addr) (c0 : Nat) (l0 : List (S70)) (r : List (S70)) (w : World) (hr0 : Kd.C k70 w A0 l0.length l0) (hc0 : l0.length ≤ c0) (h : impl_Wait.f l0 = some r) :
    Calls Try.prog 66 #[.slice A0 l0.length c0] w fun e w' => ∃ v0_ : Value, e = .returned (v0_) ∧ Kd.R k70 70 w' w.heap.size (fun _ => True) v0_ r ∧ Below w.heap.size w w' := by
  have hu24 := Try.underlying24
  unfold impl_Wait.f at h
  by_cases hlim : l0.length < 5864062014805
  case neg => rw [if_neg hlim] at h; cases h
  rw [if_pos hlim] at h
  obtain rfl := Option.some.inj h
  have HR := Aside0.mk hr0
  have HC := Aside0.mk hc0
  have HL := Aside0.mk hlim
  clear hr0 h hc0 hlim
  go_enter Try.func66, Try.ntmps66
  go_wp2_with (first | (go_at_call 81; go_in) | (go_at_call 82; refine (impl_Wait.Clone _ _ _ _ HR.out HC.out HL.out).mono ?_; rintro e w1 ⟨v1, rfl, ho1, hb1⟩; obtain ⟨A1, c1, rfl, hle, hm1⟩ := Kd.R_reads ho1; have hm : l0.length ≤ 9223372036854775807 := hm1.2.1; clear hm1; have HO := Aside0.mk ho1; have HB := Aside0.mk hb1; clear ho1 hb1))
  go_ret
  exact ⟨_, rfl, R_clip HO.out, HB.out⟩


/-! ### impl_Disk_copyOf: function 35 -/
def impl_Disk_copyOf.f (l0_0 : List ByteArray) (l0_1 : List (S70)) (a0_2 : Int) (a0_3 : Int) : Option (List ByteArray × (List (S70)) × Int × Int) := (impl_clone_string.f l0_0).bind fun t122 => ((impl_Wait.f l0_1).bind fun t125 => (some (t122, t125, a0_2, a0_3)))
def impl_Disk_copyOf.T1 : Bool × List (List Nat × List Nat) := (true, [([], []), ([0], [0]), ([1], [1]), ([], []), ([3], [3]), ([4, 2], [4]), ([], []), ([6], [6]), ([], []), ([8], [8]), ([2, 5, 7, 9], [2, 5, 7, 9]), ([10, 5, 0, 1, 2, 3, 4, 5, 6, 7, 8, 9, 10], [10])])
def impl_Disk_copyOf.B1 : List Nat := [0, 1, 3, 0, 8, 31, 0, 64, 0, 256, 1023, 2047]
theorem impl_Disk_copyOf.tab1 : rtab .any (opsOf Try.f35 1) = impl_Disk_copyOf.T1 := by kernel_rfl
theorem impl_Disk_copyOf.bits1 : waitsOk impl_Disk_copyOf.T1.2 impl_Disk_copyOf.B1 = true := by kernel_rfl
set_option maxHeartbeats 8000000 in
set_option maxRecDepth 100000 in
theorem impl_Disk_copyOf.calls (A0_0 : Option Addr) (c0_0 : Nat) (l0_0 : List ByteArray) (A0_1 : Option Addr) (c0_1 : Nat) (l0_1 : List (S70)) (a0_2 : Int) (a0_3 : Int) (r1 : List ByteArray) (r2 : List (S70)) (r3 : Int) (r4 : Int) (w : World) (hr0_0 : Kd.C Kd.string w A0_0 l0_0.length l0_0) (hc0_0 : l0_0.length ≤ c0_0) (hr0_1 : Kd.C k70 w A0_1 l0_1.length l0_1) (hc0_1 : l0_1.length ≤ c0_1) (h : impl_Disk_copyOf.f l0_0 l0_1 a0_2 a0_3 = some (r1, r2, r3, r4)) :
    Calls Try.prog 35 #[.agg #[.slice A0_0 l0_0.length c0_0, .slice A0_1 l0_1.length c0_1, .int .i64 a0_2, .int .i64 a0_3]] w fun e w' => ∃ v0_ v1_ : Value, e = .returned (.agg #[v0_, v1_, .int .i64 r3, .int .i64 r4]) ∧ Kd.R Kd.string 9 w' w.heap.size (fun _ => True) v0_ r1 ∧ Kd.R k70 70 w' w.heap.size (fun _ => True) v1_ r2 ∧ Below w.heap.size w w' := by
  have hu26 := Try.underlying26
  have HR0_0 := Aside0.mk hr0_0
  have HC0_0 := Aside0.mk hc0_0
  clear hr0_0 hc0_0
  have HR0_1 := Aside0.mk hr0_1
  have HC0_1 := Aside0.mk hc0_1
  clear hr0_1 hc0_1
  have HB := Aside0.mk (Below.refl w.heap.size w)
  have H : ((impl_clone_string.f l0_0).bind fun t122 => ((impl_Wait.f l0_1).bind fun t125 => (some (t122, t125, a0_2, a0_3)))) = some (r1, r2, r3, r4) := h
  clear h
  replace H := Option.bind_eq_some_iff.mp H
  obtain ⟨t122, A20, H⟩ := H
  replace H : ((impl_Wait.f l0_1).bind fun t125 => (some (t122, t125, a0_2, a0_3))) = some (r1, r2, r3, r4) := H
  have A2 := Aside0.mk A20
  clear A20
  replace H := Option.bind_eq_some_iff.mp H
  obtain ⟨t125, A30, H⟩ := H
  replace H : (some (t122, t125, a0_2, a0_3)) = some (r1, r2, r3, r4) := H
  have A3 := Aside0.mk A30
  clear A30
  simp only [Option.some.injEq, Prod.mk.injEq] at H
  obtain ⟨rfl, rfl, rfl, rfl⟩ := H
  go_enter Try.func35, Try.ntmps35
  try go_wp2_with (first | ((with_reducible refine zB (N := 1) rfl ?_); refine qZ ?hg (N := 1) ?hd (cs := #[.slice A0_0 l0_0.length c0_0, .slice A0_1 l0_1.length c0_1, .int .i64 a0_2, .int .i64 a0_3]) (t := 26) ?hr ?_; (case hd => rfl); (case hg => rfl); (case hr => first | (go_simp; done) | (go_simp; rfl)); intro gb120 hg w4 hbox hb; have n0_ := Aside0.mk (qN (by repeat (first | (with_reducible first | exact HB.out | apply qF | apply qC | apply qE) | exact HB.out)) hb); have n1_ := Aside0.mk (hbox); have n2_ := Aside0.mk ((by rw [hg]; exact (qM (by repeat (first | (with_reducible first | exact HB.out | apply qF | apply qC | apply qE) | exact HB.out))) : w.heap.size ≤ gb120)); have n3_ := Aside0.mk ((by rw [hg]; exact (qM (by repeat (first | (with_reducible first | exact HB.out | apply qF | apply qC | apply qE) | exact HB.out))) : w.heap.size ≤ gb120)); clear HB; have HB := n0_; have BK120 := n1_; have GW120 := n2_; have GE120 := n3_; clear n0_ n1_ n2_ n3_; clear hb hbox hg) | ((with_reducible refine zB (N := 2) rfl ?_); refine qZ ?hg (N := 2) ?hd (cs := #[.slice none 0 0, .slice none 0 0, .int .i64 0, .int .i64 0]) (t := 26) ?hr ?_; (case hd => rfl); (case hg => rfl); (case hr => first | (go_simp; done) | (go_simp; rfl)); intro gb121 hg w5 hbox hb; have n0_ := Aside0.mk (qJ (g := gb120) (o := .cells #[.slice A0_0 l0_0.length c0_0, .slice A0_1 l0_1.length c0_1, .int .i64 a0_2, .int .i64 a0_3] 26 (0, 0)) (bw_ BK120.out) hb); have n1_ := Aside0.mk (qN (by repeat (first | (with_reducible first | exact HB.out | apply qF | apply qC | apply qE | refine qB ?_ GE120.out) | exact HB.out)) hb); have n2_ := Aside0.mk (hbox); have n3_ := Aside0.mk ((by rw [hg]; exact (qM (by repeat (first | (with_reducible first | exact HB.out | apply qF | apply qC | apply qE | refine qB ?_ GE120.out) | exact HB.out))) : w.heap.size ≤ gb121)); have n4_ := Aside0.mk ((by rw [hg]; exact (qM (by repeat (first | (with_reducible first | exact HB.out | apply qF | apply qC | apply qE | refine qB ?_ GE120.out) | exact HB.out))) : w.heap.size ≤ gb121)); have n5_ := Aside0.mk ((by rw [hg]; exact Nat.ne_of_lt (zE (g := gb120) (o := .cells #[.slice A0_0 l0_0.length c0_0, .slice A0_1 l0_1.length c0_1, .int .i64 a0_2, .int .i64 a0_3] 26 (0, 0)) (bw_ BK120.out)) : gb120 ≠ gb121)); have n6_ := Aside0.mk ((by rw [hg]; exact Nat.ne_of_gt (zE (g := gb120) (o := .cells #[.slice A0_0 l0_0.length c0_0, .slice A0_1 l0_1.length c0_1, .int .i64 a0_2, .int .i64 a0_3] 26 (0, 0)) (bw_ BK120.out)) : gb121 ≠ gb120)); clear BK120; clear HB; have BK120 := n0_; have HB := n1_; have BK121 := n2_; have GW121 := n3_; have GE121 := n4_; have NB120_121 := n5_; have NB121_120 := n6_; clear n0_ n1_ n2_ n3_ n4_ n5_ n6_; clear hb hbox hg))
  have n0_ := Aside0.mk (qI BK120.out)
  have n1_ := Aside0.mk (qI BK121.out)
  have n2_ := Aside0.mk (qE HB.out)
  clear BK120
  clear BK121
  clear HB
  have BK120 := n0_
  have BK121 := n1_
  have HB := n2_
  clear n0_ n1_ n2_
  refine start_ (n := 12) (S := fun w' => w'.cell? ⟨gb120, 0, none⟩ = some (.slice A0_0 l0_0.length c0_0) ∧ w'.cell? ⟨gb120, 1, none⟩ = some (.slice A0_1 l0_1.length c0_1) ∧ w'.cell? ⟨gb120, 2, none⟩ = some (.int .i64 a0_2) ∧ w'.cell? ⟨gb120, 3, none⟩ = some (.int .i64 a0_3)) (ds := []) #[false, false, false, false, false, false, false, false, false, false, false, false] (by kernel_rfl) rfl rfl ⟨(qA BK120.out 0).trans rfl, (qA BK120.out 1).trans rfl, (qA BK120.out 2).trans rfl, (qA BK120.out 3).trans rfl⟩ (fun hHeld => ?_); refine with_tabW impl_Disk_copyOf.tab1 impl_Disk_copyOf.bits1 (fun HT_ HW_ => ?_)
  generalize w5.drew = w6 at BK120 BK121 HB hHeld ⊢
  refine pure_ (i := 0) (N := some 3) (v := ?_) (a' := ?_) #[true, false, false, false, false, false, false, false, false, false, false, false] rfl rfl (zK HT_.out (by kernel_rfl)) (fun _ _ _ h => h) (Or.inl ⟨by rfl, ?_⟩) ?_ ?_
  rotate_left
  · intro w'
    go_simp
    with_reducible rfl
  rotate_left
  · simp only [Act.put, List.setIfInBounds_toArray, List.set_cons_zero, List.set_cons_succ, i64_w, i32_w]
    rfl
  refine pure_ (i := 3) (N := some 6) (v := ?_) (a' := ?_) #[true, false, false, true, false, false, false, false, false, false, false, false] rfl rfl (zK HT_.out (by kernel_rfl)) (fun _ _ _ h => h) (Or.inl ⟨by rfl, ?_⟩) ?_ ?_
  rotate_left
  · intro w'
    go_simp
    with_reducible rfl
  rotate_left
  · simp only [Act.put, List.setIfInBounds_toArray, List.set_cons_zero, List.set_cons_succ, i64_w, i32_w]
    rfl
  refine pure_ (i := 6) (N := some 9) (v := ?_) (a' := ?_) #[true, false, false, true, false, false, true, false, false, false, false, false] rfl rfl (zK HT_.out (by kernel_rfl)) (fun _ _ _ h => h) (Or.inl ⟨by rfl, ?_⟩) ?_ ?_
  rotate_left
  · intro w'
    go_simp
    with_reducible rfl
  rotate_left
  · simp only [Act.put, List.setIfInBounds_toArray, List.set_cons_zero, List.set_cons_succ, i64_w, i32_w]
    rfl
  refine pure_ (i := 8) (N := some 11) (v := ?_) (a' := ?_) #[true, false, false, true, false, false, true, false, true, false, false, false] rfl rfl (zK HT_.out (by kernel_rfl)) (fun _ _ _ h => h) (Or.inl ⟨by rfl, ?_⟩) ?_ ?_
  rotate_left
  · intro w'
    go_simp
    with_reducible rfl
  rotate_left
  · simp only [Act.put, List.setIfInBounds_toArray, List.set_cons_zero, List.set_cons_succ, i64_w, i32_w]
    rfl
  refine take_ (i := 1) (N := some 4) (v := ?_) (a' := ?_) #[true, true, false, true, false, false, true, false, true, false, false, false] rfl rfl (zN HT_.out HW_.out (by kernel_rfl)) (fun _ _ _ h => h) (Or.inl ⟨by rfl, ?_⟩) hHeld ?_ ?_
  rotate_left
  · rintro w' ⟨s0, s1, s2, s3⟩
    go_simp
    with_reducible rfl
  rotate_left
  · simp only [Act.put, List.setIfInBounds_toArray, List.set_cons_zero, List.set_cons_succ, i64_w, i32_w]
    rfl
  refine take_ (i := 4) (N := some 7) (v := ?_) (a' := ?_) #[true, true, false, true, true, false, true, false, true, false, false, false] rfl rfl (zN HT_.out HW_.out (by kernel_rfl)) (fun _ _ _ h => h) (Or.inl ⟨by rfl, ?_⟩) hHeld ?_ ?_
  rotate_left
  · rintro w' ⟨s0, s1, s2, s3⟩
    go_simp
    with_reducible rfl
  rotate_left
  · simp only [Act.put, List.setIfInBounds_toArray, List.set_cons_zero, List.set_cons_succ, i64_w, i32_w]
    rfl
  refine take_ (i := 7) (N := some 10) (v := ?_) (a' := ?_) #[true, true, false, true, true, false, true, true, true, false, false, false] rfl rfl (zN HT_.out HW_.out (by kernel_rfl)) (fun _ _ _ h => h) (Or.inl ⟨by rfl, ?_⟩) hHeld ?_ ?_
  rotate_left
  · rintro w' ⟨s0, s1, s2, s3⟩
    go_simp
    with_reducible rfl
  rotate_left
  · simp only [Act.put, List.setIfInBounds_toArray, List.set_cons_zero, List.set_cons_succ, i64_w, i32_w]
    rfl
  refine take_ (i := 9) (N := some 12) (v := ?_) (a' := ?_) #[true, true, false, true, true, false, true, true, true, true, false, false] rfl rfl (zN HT_.out HW_.out (by kernel_rfl)) (fun _ _ _ h => h) (Or.inl ⟨by rfl, ?_⟩) hHeld ?_ ?_
  rotate_left
  · rintro w' ⟨s0, s1, s2, s3⟩
    go_simp
    with_reducible rfl
  rotate_left
  · simp only [Act.put, List.setIfInBounds_toArray, List.set_cons_zero, List.set_cons_succ, i64_w, i32_w]
    rfl
  refine one_ (i := 2) (N := some 5) #[true, true, true, true, true, false, true, true, true, true, false, false] rfl rfl (zR HT_.out (by kernel_rfl)) (by decide) (fun K hK => ?_)
  refine goes_ Try.func63 (by kernel_rfl) rfl #[.slice A0_0 l0_0.length c0_0] (by rfl) rfl rfl (by (try simp only [List.map_toArray, List.map_cons, List.map_nil]); first | done | rfl | (simp only [List.length_drop, List.length_take]; rfl)) ?_
  with_reducible refine (impl_clone_string.calls _ _ l0_0 t122 _ ?side1 ?side2 A2.out).mono ?_
  (case side1 => repeat (first | exact (Kd.zI HR0_0.out HB.out) | (with_reducible refine Kd.zC ?_ _) | (with_reducible refine Kd.zD ?_ _) | (with_reducible refine Kd.zH ?_)))
  (case side2 => exact HC0_0.out)
  rintro e w7 ⟨v123, rfl, ho0, hb⟩
  refine ⟨_, rfl, ?_⟩
  have n0_ := Aside0.mk (Kd.zJ ho0 (qM (by repeat (first | (with_reducible first | exact HB.out | apply qF | apply qC | apply qE | refine qB ?_ GE120.out | refine qB ?_ GE121.out) | exact HB.out))))
  have n1_ := Aside0.mk (qJ (g := gb120) (o := .cells #[.slice A0_0 l0_0.length c0_0, .slice A0_1 l0_1.length c0_1, .int .i64 a0_2, .int .i64 a0_3] 26 (0, 0)) (bw_ BK120.out) hb)
  have n2_ := Aside0.mk (qJ (g := gb121) (o := .cells #[.slice none 0 0, .slice none 0 0, .int .i64 0, .int .i64 0] 26 (0, 0)) (bw_ BK121.out) hb)
  have n3_ := Aside0.mk (qN (by repeat (first | (with_reducible first | exact HB.out | apply qF | apply qC | apply qE | refine qB ?_ GE120.out | refine qB ?_ GE121.out) | exact HB.out)) hb)
  clear BK120
  clear BK121
  clear HB
  have HO124 := n0_
  have BK120 := n1_
  have BK121 := n2_
  have HB := n3_
  clear n0_ n1_ n2_ n3_
  (try clear hb)
  (try clear hb2)
  (try clear hk)
  (try clear hi)
  (try clear ho0)
  refine hK.out _ _ ⟨(qA BK120.out 0).trans rfl, (qA BK120.out 1).trans rfl, (qA BK120.out 2).trans rfl, (qA BK120.out 3).trans rfl⟩ (fun hHeld => ?_)
  clear hK K
  refine norm_ (a' := ?_) ?_ ?_
  rotate_left
  · show Act.put _ (some 5) _ = _
    simp only [Act.put, List.setIfInBounds_toArray, List.set_cons_zero, List.set_cons_succ, i64_w, i32_w]
    rfl
  refine one_ (i := 5) (N := some 8) #[true, true, true, true, true, true, true, true, true, true, false, false] rfl rfl (zR HT_.out (by kernel_rfl)) (by decide) (fun K hK => ?_)
  refine goes_ Try.func66 (by kernel_rfl) rfl #[.slice A0_1 l0_1.length c0_1] (by rfl) rfl rfl (by (try simp only [List.map_toArray, List.map_cons, List.map_nil]); first | done | rfl | (simp only [List.length_drop, List.length_take]; rfl)) ?_
  with_reducible refine (impl_Wait.calls _ _ l0_1 t125 _ ?side1 ?side2 A3.out).mono ?_
  (case side1 => repeat (first | exact (Kd.zI HR0_1.out HB.out) | (with_reducible refine Kd.zC ?_ _) | (with_reducible refine Kd.zD ?_ _) | (with_reducible refine Kd.zH ?_)))
  (case side2 => exact HC0_1.out)
  rintro e w8 ⟨v126, rfl, ho0, hb⟩
  refine ⟨_, rfl, ?_⟩
  have n0_ := Aside0.mk (Kd.qU (rw_ HO124.out) hb)
  have n1_ := Aside0.mk (Kd.zJ ho0 (qM (by repeat (first | (with_reducible first | exact HB.out | apply qF | apply qC | apply qE | refine qB ?_ GE120.out | refine qB ?_ GE121.out) | exact HB.out))))
  have n2_ := Aside0.mk (qJ (g := gb120) (o := .cells #[.slice A0_0 l0_0.length c0_0, .slice A0_1 l0_1.length c0_1, .int .i64 a0_2, .int .i64 a0_3] 26 (0, 0)) (bw_ BK120.out) hb)
  have n3_ := Aside0.mk (qJ (g := gb121) (o := .cells #[.slice none 0 0, .slice none 0 0, .int .i64 0, .int .i64 0] 26 (0, 0)) (bw_ BK121.out) hb)
  have n4_ := Aside0.mk (qN (by repeat (first | (with_reducible first | exact HB.out | apply qF | apply qC | apply qE | refine qB ?_ GE120.out | refine qB ?_ GE121.out) | exact HB.out)) hb)
  clear HO124
  clear BK120
  clear BK121
  clear HB
  have HO124 := n0_
  have HO127 := n1_
  have BK120 := n2_
  have BK121 := n3_
  have HB := n4_
  clear n0_ n1_ n2_ n3_ n4_
  (try clear hb)
  (try clear hb2)
  (try clear hk)
  (try clear hi)
  (try clear ho0)
  obtain ⟨Ao9, co9, eo9⟩ := Kd.zG HO127.out
  (first | subst eo9 | (injection eo9 with f1_ f2_ f3_; have f4_ := f1_.symm; have f5_ := f3_.symm; clear f1_ f2_ f3_; subst f4_; subst f5_))
  obtain ⟨Ao10, co10, eo10⟩ := Kd.zG HO124.out
  (first | subst eo10 | (injection eo10 with f1_ f2_ f3_; have f4_ := f1_.symm; have f5_ := f3_.symm; clear f1_ f2_ f3_; subst f4_; subst f5_))
  refine hK.out _ _ ⟨(qA BK120.out 0).trans rfl, (qA BK120.out 1).trans rfl, (qA BK120.out 2).trans rfl, (qA BK120.out 3).trans rfl⟩ (fun hHeld => ?_)
  clear hK K
  refine norm_ (a' := ?_) ?_ ?_
  rotate_left
  · show Act.put _ (some 8) _ = _
    simp only [Act.put, List.setIfInBounds_toArray, List.set_cons_zero, List.set_cons_succ, i64_w, i32_w]
    rfl
  refine pure_ (i := 10) (N := some 13) (v := ?_) (a' := ?_) #[true, true, true, true, true, true, true, true, true, true, true, false] rfl rfl (zK HT_.out (by kernel_rfl)) (fun _ _ _ h => h) (Or.inl ⟨by rfl, ?_⟩) ?_ ?_
  rotate_left
  · intro w'
    go_simp
    with_reducible rfl
  rotate_left
  · simp only [Act.put, List.setIfInBounds_toArray, List.set_cons_zero, List.set_cons_succ, i64_w, i32_w]
    rfl
  refine one_ (i := 11) (N := none) #[true, true, true, true, true, true, true, true, true, true, true, true] rfl rfl (zR HT_.out (by kernel_rfl)) (by decide) (fun K hK => ?_)
  have hs11 : w8.cell? ⟨gb121, 0, none⟩ = some (.slice none 0 0) := (qA BK121.out 0).trans rfl
  have hfs11 := qD BK121.out 0
  have hns11_0 := NB120_121.out
  have hms11_0 := NB121_120.out
  have hs12 : w8.cell? ⟨gb121, 1, none⟩ = some (.slice none 0 0) := (qA BK121.out 1).trans rfl
  have hfs12 := qD BK121.out 1
  have hns12_0 := NB120_121.out
  have hms12_0 := NB121_120.out
  have hs13 : w8.cell? ⟨gb121, 2, none⟩ = some (.int .i64 0) := (qA BK121.out 2).trans rfl
  have hfs13 := qD BK121.out 2
  have hns13_0 := NB120_121.out
  have hms13_0 := NB121_120.out
  have hs14 : w8.cell? ⟨gb121, 3, none⟩ = some (.int .i64 0) := (qA BK121.out 3).trans rfl
  have hfs14 := qD BK121.out 3
  have hns14_0 := NB120_121.out
  have hms14_0 := NB121_120.out
  refine skip_ (w1 := ?_) (by rfl) rfl ?_ ?_
  rotate_left
  · go_simp
    rfl
  refine hK.out _ _ ⟨((xB (p := ⟨gb121, _, none⟩) NB120_121.out _).trans (((xB (p := ⟨gb121, _, none⟩) NB120_121.out _).trans (((xB (p := ⟨gb121, _, none⟩) NB120_121.out _).trans (((xB (p := ⟨gb121, _, none⟩) NB120_121.out _).trans (hHeld.1)))))))), ((xB (p := ⟨gb121, _, none⟩) NB120_121.out _).trans (((xB (p := ⟨gb121, _, none⟩) NB120_121.out _).trans (((xB (p := ⟨gb121, _, none⟩) NB120_121.out _).trans (((xB (p := ⟨gb121, _, none⟩) NB120_121.out _).trans (hHeld.2.1)))))))), ((xB (p := ⟨gb121, _, none⟩) NB120_121.out _).trans (((xB (p := ⟨gb121, _, none⟩) NB120_121.out _).trans (((xB (p := ⟨gb121, _, none⟩) NB120_121.out _).trans (((xB (p := ⟨gb121, _, none⟩) NB120_121.out _).trans (hHeld.2.2.1)))))))), ((xB (p := ⟨gb121, _, none⟩) NB120_121.out _).trans (((xB (p := ⟨gb121, _, none⟩) NB120_121.out _).trans (((xB (p := ⟨gb121, _, none⟩) NB120_121.out _).trans (((xB (p := ⟨gb121, _, none⟩) NB120_121.out _).trans (hHeld.2.2.2))))))))⟩ (fun hHeld => ?_)
  clear hK K
  refine done_ (done_of HT_.out (by kernel_rfl)) ?_
  try go_wp2
  refine bodyPost_ret (results_cell_row rfl _ _ gb121 26 #[.slice Ao10 t122.length co10, .slice Ao9 t125.length co9, .int .i64 a0_2, .int .i64 a0_3] (0, 0) _ rfl (by (with_reducible repeat (first | refine qH ?_ _ | refine qI ?_ | refine qG ?_ _)); refine qP (cs := #[.slice Ao10 t122.length co10, .slice Ao9 t125.length co9, .int .i64 a0_2, .int .i64 0]) ?_ 3 _ rfl; (with_reducible repeat (first | refine qH ?_ _ | refine qI ?_ | refine qG ?_ _)); refine qP (cs := #[.slice Ao10 t122.length co10, .slice Ao9 t125.length co9, .int .i64 0, .int .i64 0]) ?_ 2 _ rfl; (with_reducible repeat (first | refine qH ?_ _ | refine qI ?_ | refine qG ?_ _)); refine qP (cs := #[.slice Ao10 t122.length co10, .slice none 0 0, .int .i64 0, .int .i64 0]) ?_ 1 _ rfl; (with_reducible repeat (first | refine qH ?_ _ | refine qI ?_ | refine qG ?_ _)); refine qP (cs := #[.slice none 0 0, .slice none 0 0, .int .i64 0, .int .i64 0]) ?_ 0 _ rfl; (with_reducible repeat (first | refine qH ?_ _ | refine qI ?_ | refine qG ?_ _)); exact BK121.out) Try.underlying26 rfl (by kernel_rfl)) rfl ?_
  exact ⟨_, _, by first | rfl | (simp [errW_none, errW_some] <;> rfl) | (simp [*, errW_none, errW_some] <;> rfl), by (with_reducible repeat (first | apply Kd.qX | apply Kd.qV | apply Kd.qW)); exact Kd.qS (Kd.R_far (p := ⟨gb121, 3, none⟩) (Kd.R_far (p := ⟨gb121, 2, none⟩) (Kd.R_far (p := ⟨gb121, 1, none⟩) (Kd.R_far (p := ⟨gb121, 0, none⟩) (Kd.qY HO124.out BK121.out (by decide)) (fun _ hk => hk.2) (.slice Ao10 t122.length co10)) (fun _ hk => hk.2) (.slice Ao9 t125.length co9)) (fun _ hk => hk.2) (.int .i64 a0_2)) (fun _ hk => hk.2) (.int .i64 a0_3)) (fun _ hk => trivial), by (with_reducible repeat (first | apply Kd.qX | apply Kd.qV | apply Kd.qW)); exact Kd.qS (Kd.R_far (p := ⟨gb121, 3, none⟩) (Kd.R_far (p := ⟨gb121, 2, none⟩) (Kd.R_far (p := ⟨gb121, 1, none⟩) (Kd.R_far (p := ⟨gb121, 0, none⟩) (Kd.qY HO127.out BK121.out (by decide)) (fun _ hk => hk.2) (.slice Ao10 t122.length co10)) (fun _ hk => hk.2) (.slice Ao9 t125.length co9)) (fun _ hk => hk.2) (.int .i64 a0_2)) (fun _ hk => hk.2) (.int .i64 a0_3)) (fun _ hk => trivial), by repeat (first | (with_reducible first | exact HB.out | apply qF | apply qC | apply qE | refine qB ?_ GE120.out | refine qB ?_ GE121.out) | exact HB.out)⟩

/-! ### impl_DiskWrite: function 16 (a contract of this session's) -/

/-- A disk that a call has made lies in block g, and its rows are the call's own. -/
def DiskAt (w0 w : World) (g : Nat) (vC vW : Value) (cells : List ByteArray) (waits : List S70) (room left : Int) : Prop :=
  w0.heap.size ≤ g ∧ w.heap[g]? = some (.cells #[vC, vW, .int .i64 room, .int .i64 left] 26 (0, 0)) ∧ Kd.R Kd.string 9 w w0.heap.size (fun _ => True) vC cells ∧ Kd.R k70 70 w w0.heap.size (fun _ => True) vW waits ∧ Below w0.heap.size w0 w

theorem diskAt_drewN {w0 w : World} {g : Nat} {vC vW : Value} {cells : List ByteArray} {waits : List S70} {room left : Int} (h : DiskAt w0 w g vC vW cells waits room left) (n : Nat) : DiskAt w0 (w.drewN n) g vC vW cells waits room left :=
  ⟨h.1, h.2.1, Kd.qV h.2.2.1 n, Kd.qV h.2.2.2.1 n, qC h.2.2.2.2 n⟩
def lessP (n : Int) : Int := mx (wrap64 (n - 1)) (mn n 0)
theorem diskAt_taken {w0 w1 : World} {g : Nat} {vC vO : Value} {cells : List ByteArray} {waits : List S70} {room left room' left' : Int} {A : Option Addr} {n c : Nat} (GE : w0.heap.size ≤ g) (BK : w1.heap[g]? = some (.cells #[vC, vO, .int .i64 room, .int .i64 left] 26 (0, 0))) (HOC : Kd.R Kd.string 9 w1 w0.heap.size (fun _ => True) vC cells) (HO : Kd.R k70 70 w1 w0.heap.size (fun _ => True) (.slice A waits.length c) waits) (HB : Below w0.heap.size w0 w1) (hn : n = waits.length) (hl : left' = lessP left) (hr : room' = lessP room) :
    DiskAt w0 (((w1.setCell ⟨g, 1, none⟩ (.slice A n c)).setCell ⟨g, 3, none⟩ (.int .i64 left')).setCell ⟨g, 2, none⟩ (.int .i64 room')).drew.drew g vC (.slice A n c) cells waits (lessP room) (lessP left) := by
  subst hn; subst hl; subst hr
  have BK1 := qP (cs := #[vC, vO, .int .i64 room, .int .i64 left]) BK 1 (.slice A waits.length c) rfl
  have BK2 := qP (cs := #[vC, .slice A waits.length c, .int .i64 room, .int .i64 left]) BK1 3 (.int .i64 (lessP left)) rfl
  have BK3 := qP (cs := #[vC, .slice A waits.length c, .int .i64 room, .int .i64 (lessP left)]) BK2 2 (.int .i64 (lessP room)) rfl
  exact ⟨GE, BK3, Kd.qW (Kd.qW (Kd.R_set (Kd.R_set (Kd.R_set HOC BK (by decide) _ _) BK1 (by decide) _ _) BK2 (by decide) _ _)), Kd.qW (Kd.qW (Kd.R_set (Kd.R_set (Kd.R_set HO BK (by decide) _ _) BK1 (by decide) _ _) BK2 (by decide) _ _)), below_drew (below_drew (qB (qB (qB HB GE) GE) GE))⟩
def writeOk (waits : List S70) (room left at_ : Int) (text : ByteArray) : Bool := decide (0 ≤ at_ ∧ at_ ≤ 41) && (decide ((text.size : Int) ≤ 1200) && (!(room == 0) && !((waits.length : Int) == 100)))

set_option maxHeartbeats 4000000 in
set_option maxRecDepth 100000 in
theorem impl_Disk_write.stopped (g : Nat) (vC vW : Value) (cells : List ByteArray) (waits : List S70) (room at_ : Int) (text : ByteArray) (w0 w : World) (hD : DiskAt w0 w g vC vW cells waits room 0) :
    Calls Try.prog 39 #[.pointer (some ⟨g, 0, none⟩), .int .i64 at_, .string text] w fun e w' => e = .returned (.bool true) ∧ DiskAt w0 w' g vC vW cells waits room 0 := by
  have HD := Aside0.mk hD
  have BK := Aside0.mk hD.2.1
  clear hD
  have hz3 : w.cell? ⟨g, 3, none⟩ = some (.int .i64 0) := (qA BK.out 3).trans rfl
  go_enter Try.func39, Try.ntmps39
  go_wp2
  go_ret
  exact ⟨rfl, HD.out⟩
set_option maxHeartbeats 4000000 in
set_option maxRecDepth 100000 in
theorem impl_Disk_write.refused (g : Nat) (vC vW : Value) (cells : List ByteArray) (waits : List S70) (room left at_ : Int) (text : ByteArray) (w0 w : World) (hD : DiskAt w0 w g vC vW cells waits room left) (hl : (left == 0) = false) (hk : writeOk waits room left at_ text = false) :
    Calls Try.prog 39 #[.pointer (some ⟨g, 0, none⟩), .int .i64 at_, .string text] w fun e w' => e = .returned (.bool false) ∧ DiskAt w0 w' g vC vW cells waits room left := by
  have HD := Aside0.mk hD
  have BK := Aside0.mk hD.2.1
  obtain ⟨AW, cW, rfl, hleW, _⟩ := Kd.R_reads hD.2.2.2.1
  have HK := Aside0.mk hk
  clear hD hk hleW
  have hz1 : w.cell? ⟨g, 1, none⟩ = some (.slice AW waits.length cW) := (qA BK.out 1).trans rfl
  have hz2 : w.cell? ⟨g, 2, none⟩ = some (.int .i64 room) := (qA BK.out 2).trans rfl
  have hz3 : w.cell? ⟨g, 3, none⟩ = some (.int .i64 left) := (qA BK.out 3).trans rfl
  by_cases h1 : 0 ≤ at_ ∧ at_ ≤ 41
  · have f1 : impl_isCell.f at_ = some true := by simp [impl_isCell.f, impl_in.f, h1.1, h1.2]
    by_cases h2 : (text.size : Int) ≤ 1200
    · have h2' : decide (1200 < text.size) = false := by simp; omega
      cases h3 : (room == 0) with
      | true =>
        go_enter Try.func39, Try.ntmps39
        go_wp2_with (go_at_call 45; refine (impl_isCell.calls _ _ _ f1).mono ?_; rintro e w' ⟨rfl, ⟨m, rfl⟩⟩)
        go_ret
        exact ⟨rfl, diskAt_drewN HD.out _⟩
      | false =>
        cases h4 : ((waits.length : Int) == 100) with
        | true =>
          go_enter Try.func39, Try.ntmps39
          go_wp2_with (go_at_call 45; refine (impl_isCell.calls _ _ _ f1).mono ?_; rintro e w' ⟨rfl, ⟨m, rfl⟩⟩)
          go_ret
          exact ⟨rfl, diskAt_drewN HD.out _⟩
        | false =>
          have := HK.out
          simp [writeOk, h1.1, h1.2, h2, h3, h4] at this
    · have h2' : decide (1200 < text.size) = true := by simp; omega
      go_enter Try.func39, Try.ntmps39
      go_wp2_with (go_at_call 45; refine (impl_isCell.calls _ _ _ f1).mono ?_; rintro e w' ⟨rfl, ⟨m, rfl⟩⟩)
      go_ret
      exact ⟨rfl, diskAt_drewN HD.out _⟩
  · have f1 : impl_isCell.f at_ = some false := by
      rcases Int.lt_or_le at_ 0 with h | h
      · simp [impl_isCell.f, impl_in.f, show ¬ (0 ≤ at_) by omega]
      · simp [impl_isCell.f, impl_in.f, h, show ¬ (at_ ≤ 41) by omega]
    go_enter Try.func39, Try.ntmps39
    go_wp2_with (go_at_call 45; refine (impl_isCell.calls _ _ _ f1).mono ?_; rintro e w' ⟨rfl, ⟨m, rfl⟩⟩)
    go_ret
    exact ⟨rfl, diskAt_drewN HD.out _⟩
set_option maxHeartbeats 4000000 in
set_option maxRecDepth 100000 in
theorem impl_Disk_write.taken (g : Nat) (vC vW : Value) (cells : List ByteArray) (waits : List S70) (room left at_ : Int) (text : ByteArray) (w0 w : World) (hD : DiskAt w0 w g vC vW cells waits room left) (hl : (left == 0) = false) (hk : writeOk waits room left at_ text = true) (hm : waits.length ≤ 100) :
    Calls Try.prog 39 #[.pointer (some ⟨g, 0, none⟩), .int .i64 at_, .string text] w fun e w' => ∃ vW', e = .returned (.bool true) ∧ DiskAt w0 w' g vC vW' cells (waits ++ [⟨at_, text⟩]) (lessP room) (lessP left) := by
  have HD := Aside0.mk hD
  have BK := Aside0.mk hD.2.1
  have HOC := Aside0.mk hD.2.2.1
  have HO := Aside0.mk hD.2.2.2.1
  have HB := Aside0.mk hD.2.2.2.2
  have GE := Aside0.mk hD.1
  obtain ⟨AW, cW, rfl, hleW, _⟩ := Kd.R_reads hD.2.2.2.1
  have HM := Aside0.mk hm
  simp only [writeOk, Bool.and_eq_true, decide_eq_true_eq, Bool.not_eq_true'] at hk
  obtain ⟨⟨h1, h1'⟩, h2, h3, h4⟩ := hk
  have f1 : impl_isCell.f at_ = some true := by simp [impl_isCell.f, impl_in.f, h1, h1']
  have F1 := Aside0.mk f1
  have h2' : decide (1200 < text.size) = false := by simp; omega
  have h2i : decide ((1200 : Int) < (text.size : Int)) = false := by simp; omega
  clear hD hleW hm h1 h1' f1 h2
  have hz1 : w.cell? ⟨g, 1, none⟩ = some (.slice AW waits.length cW) := (qA BK.out 1).trans rfl
  have hz2 : w.cell? ⟨g, 2, none⟩ = some (.int .i64 room) := (qA BK.out 2).trans rfl
  have hz3 : w.cell? ⟨g, 3, none⟩ = some (.int .i64 left) := (qA BK.out 3).trans rfl
  go_enter Try.func39, Try.ntmps39
  go_wp2_with (first | (go_at_call 45; refine (impl_isCell.calls _ _ _ F1.out).mono ?_; rintro e w' ⟨rfl, ⟨m, rfl⟩⟩) | ((with_reducible refine xH (b := .append) (xs := #[.tmp 41, .tmp 45]) rfl ?_); at_builtin; refine Kd.R_append k70 (w0 := w0) w0.heap.size rfl (.tmp 41) (.tmp 45) 24 70 (.agg #[(.int .i64 0), (.string ⟨#[]⟩)]) 24 rfl Try.underlying24 info70 rfl (by decide) (by omega) (.slice AW waits.length cW) waits (⟨at_, text⟩ : S70) [.int .i64 at_, .string text] (fun _ => True) (fun _ => False) rfl (by first | (go_simp; done) | (go_simp; rfl)) ?aP (fun _ hk => hk.elim) ?aF ?aO ?aB ?aS ?aL ?_; (case aP => exact k70_mkM _ _ _ (⟨at_, text⟩ : S70)); (case aB => exact qC HB.out m); (case aF => exact (fun _ _ => trivial)); (case aO => exact Kd.qV HO.out m); (case aS => exact HB.out.size); (case aL => have := HM.out; omega); intro v1 w1 ho hb hg hat; have BK1 := Aside0.mk (zT (g := g) (o := .cells #[vC, .slice AW waits.length cW, .int .i64 room, .int .i64 left] 26 (0, 0)) (qH BK.out m) hg (Kd.R_ne HO.out BK.out (by decide))); have HOC1 := Aside0.mk (Kd.R_over' (Kd.qV HOC.out m) (Kd.R_typed (Kd.qV HO.out m)) (by decide) hg); have HO1 := Aside0.mk ho; have HB1 := Aside0.mk hb; clear ho hb hg hat hz1 hz2 hz3; obtain ⟨Ao, co, eo⟩ := Kd.zG HO1.out; subst eo; have hz1 : w1.cell? ⟨g, 1, none⟩ = some (.slice AW waits.length cW) := (qA BK1.out 1).trans rfl; have hz2 : w1.cell? ⟨g, 2, none⟩ = some (.int .i64 room) := (qA BK1.out 2).trans rfl; have hz3 : w1.cell? ⟨g, 3, none⟩ = some (.int .i64 left) := (qA BK1.out 3).trans rfl; have hf0 := qD BK1.out 1; have hf2 := qD BK1.out 2; have hf3 := qD BK1.out 3))
  all_goals go_region
  go_wp2
  all_goals go_region
  go_wp2
  all_goals
    go_ret
    refine ⟨rfl, .slice Ao (waits.length + 1) co, ?_⟩
  all_goals
    refine diskAt_taken GE.out BK1.out HOC1.out HO1.out HB1.out ?_ ?_ ?_
    · simp
    · unfold lessP mx mn
      (repeat' split) <;> omega
    · unfold lessP mx mn
      (repeat' split) <;> omega

def applyW (cells : List ByteArray) (ws : List S70) : List ByteArray := ws.foldl (fun c w => c.set w.f0.toNat w.f1) cells
theorem applyW_length (cells : List ByteArray) (ws : List S70) : (applyW cells ws).length = cells.length := by
  unfold applyW
  induction ws generalizing cells with
  | nil => rfl
  | cons w ws ih => simp [ih]
theorem applyW_snoc (cells : List ByteArray) (ws : List S70) (i : Nat) (h : i < ws.length) : applyW cells (ws.take (i + 1)) = (applyW cells (ws.take i)).set (rd_T70 ws i).f0.toNat (rd_T70 ws i).f1 := by
  have e : rd_T70 ws i = ws[i] := by simp [rd_T70, List.getD_eq_getElem?_getD, List.getElem?_eq_getElem h]
  rw [List.take_succ_eq_append_getElem h, e]
  unfold applyW
  rw [List.foldl_append]
  rfl

theorem diskAt_synced {w0 w1 : World} {g : Nat} {vC vO : Value} {cells : List ByteArray} {room left left' : Int} (GE : w0.heap.size ≤ g) (BK : w1.heap[g]? = some (.cells #[vC, vO, .int .i64 room, .int .i64 left] 26 (0, 0))) (HOC : Kd.R Kd.string 9 w1 w0.heap.size (fun _ => True) vC cells) (HB : Below w0.heap.size w0 w1) (hl : left' = lessP left) :
    DiskAt w0 (((w1.setCell ⟨g, 1, none⟩ (.slice none 0 0)).setCell ⟨g, 3, none⟩ (.int .i64 left'))).drew g vC (.slice none 0 0) cells [] room (lessP left) := by
  subst hl
  have BK1 := qP (cs := #[vC, vO, .int .i64 room, .int .i64 left]) BK 1 (.slice none 0 0) rfl
  have BK2 := qP (cs := #[vC, .slice none 0 0, .int .i64 room, .int .i64 left]) BK1 3 (.int .i64 (lessP left)) rfl
  exact ⟨GE, BK2, Kd.qW (Kd.R_set (Kd.R_set HOC BK (by decide) _ _) BK1 (by decide) _ _), Kd.R_nil _ _ _ _ _, below_drew (qB (qB HB GE) GE)⟩
theorem diskAt_step {w0 wr : World} {g gC n c : Nat} {vW : Value} {cells : List ByteArray} {waits : List S70} {room left : Int} (GE : w0.heap.size ≤ g) (BK : wr.heap[g]? = some (.cells #[.slice (some ⟨gC, 0, none⟩) n c, vW, .int .i64 room, .int .i64 left] 26 (0, 0))) (HOC : Kd.R Kd.string 9 wr w0.heap.size (fun _ => True) (.slice (some ⟨gC, 0, none⟩) n c) cells) (HO : Kd.R k70 70 wr w0.heap.size (fun _ => True) vW waits) (HB : Below w0.heap.size w0 wr) (o : Obj) (j : Int) (x : ByteArray) :
    DiskAt w0 ((wr.setCell ⟨gC, j.toNat, none⟩ (.string x)).alloc o).drew g (.slice (some ⟨gC, 0, none⟩) n c) vW (cells.set j.toNat x) waits room left := by
  obtain ⟨h1, h2⟩ := Kd.R_putg HOC j x
  have hne : g ≠ gC := fun e => Kd.R_ne HOC BK (by decide) (by rw [e]; rfl)
  exact ⟨GE, qI (qG (qR BK hne _) o), Kd.qW (Kd.qX h1 o), Kd.qW (Kd.qX (Kd.R_over' HO (Kd.R_typed HOC) (by decide) h2) o), below_drew (qF (HB.setCell (Kd.zY HOC gC rfl) _) o)⟩
set_option maxHeartbeats 4000000 in
set_option maxRecDepth 100000 in
theorem impl_Disk_sync.stopped (g : Nat) (vC vW : Value) (cells : List ByteArray) (waits : List S70) (room : Int) (w0 w : World) (hD : DiskAt w0 w g vC vW cells waits room 0) :
    Calls Try.prog 44 #[.pointer (some ⟨g, 0, none⟩)] w fun e w' => e = .returned (.tuple #[]) ∧ DiskAt w0 w' g vC vW cells waits room 0 := by
  have HD := Aside0.mk hD
  have BK := Aside0.mk hD.2.1
  clear hD
  have hz3 : w.cell? ⟨g, 3, none⟩ = some (.int .i64 0) := (qA BK.out 3).trans rfl
  go_enter Try.func44, Try.ntmps44
  go_wp2
  exact bodyPost_ret (results_none rfl _ _ _) rfl ⟨rfl, HD.out⟩
set_option maxHeartbeats 4000000 in
set_option maxRecDepth 100000 in
theorem impl_Disk_sync.done (g : Nat) (vC vW : Value) (cells : List ByteArray) (waits : List S70) (room left : Int) (w0 w : World) (hD : DiskAt w0 w g vC vW cells waits room left) (hl : (left == 0) = false) (hin : ∀ i, i < waits.length → 0 ≤ (rd_T70 waits i).f0 ∧ (rd_T70 waits i).f0 < cells.length) :
    Calls Try.prog 44 #[.pointer (some ⟨g, 0, none⟩)] w fun e w' => e = .returned (.tuple #[]) ∧ DiskAt w0 w' g vC (.slice none 0 0) (applyW cells waits) [] room (lessP left) := by
  have HD := Aside0.mk hD
  have BK := Aside0.mk hD.2.1
  have HO := Aside0.mk hD.2.2.2.1
  have HB := Aside0.mk hD.2.2.2.2
  have GE := Aside0.mk hD.1
  have HIN := Aside0.mk hin
  obtain ⟨AW, cW, rfl, hleW, hrW⟩ := Kd.R_reads hD.2.2.2.1
  obtain ⟨AC, cC, rfl, hleC, hrC⟩ := Kd.R_reads hD.2.2.1
  have hlen : waits.length ≤ 9223372036854775807 := hrW.2.1
  have HLEN := Aside0.mk hlen
  clear hD hleW hleC hrC hin hrW hlen
  have hz1 : w.cell? ⟨g, 1, none⟩ = some (.slice AW waits.length cW) := (qA BK.out 1).trans rfl
  have hz3 : w.cell? ⟨g, 3, none⟩ = some (.int .i64 left) := (qA BK.out 3).trans rfl
  go_enter Try.func44, Try.ntmps44
  go_wp2
  go_loopg [14] waits.length (fun kq v14 w' => ∃ (i : Nat), v14 = .int .i64 (i : Int) ∧ Aside0 (i + kq = waits.length) ∧ Aside0 (DiskAt w0 w' g (.slice AC cells.length cC) (.slice AW waits.length cW) (applyW cells (waits.take i)) waits room left))
  case atStart => exact ⟨0, rfl, ⟨by omega⟩, ⟨HD.out⟩⟩
  case round =>
    clear BK HO HB hz1 hz3 HD
    obtain ⟨i, rfl, HI, HD⟩ := hrel
    have BK := Aside0.mk HD.out.2.1
    have HOC := Aside0.mk HD.out.2.2.1
    have HO := Aside0.mk HD.out.2.2.2.1
    have HB := Aside0.mk HD.out.2.2.2.2
    have hz0 : wr.cell? ⟨g, 0, none⟩ = some (.slice AC cells.length cC) := (qA BK.out 0).trans rfl
    have hz1 : wr.cell? ⟨g, 1, none⟩ = some (.slice AW waits.length cW) := (qA BK.out 1).trans rfl
    have hz3 : wr.cell? ⟨g, 3, none⟩ = some (.int .i64 left) := (qA BK.out 3).trans rfl
    have hf1 := qD BK.out 1
    have hf3 := qD BK.out 3
    cases gk with
    | zero =>
      have hi2 : i = waits.length := by have := HI.out; omega
      have hi3 : waits.length ≤ i := by omega
      have HI2 := Aside0.mk hi2
      clear hi2
      go_wp2
      all_goals go_region
      all_goals go_wp2
      all_goals go_end0
      all_goals refine ⟨rfl, ?_⟩
      all_goals
        have E := HI2.out
        subst E
        rw [List.take_length] at HOC
        refine diskAt_synced GE.out BK.out HOC.out HB.out ?_
        unfold lessP mx mn
        (repeat' split) <;> omega
    | succ k1 =>
      have hi := HI.out
      have hlt : i < waits.length := by omega
      have hin := HIN.out i hlt
      obtain ⟨ad, e1, hx0, hx1⟩ := at_T70 (Kd.zA HO.out).2.2 (i : Int) (by omega) (by omega)
      cases e1
      rw [Int.toNat_natCast] at hx0 hx1
      obtain ⟨hin0, hin1⟩ := hin
      have HC := Kd.zA HOC.out
      rw [applyW_length] at HC
      obtain ⟨gC, eC⟩ : ∃ gC, AC = some ⟨gC, 0, none⟩ := by
        obtain ⟨_, inner, ho, _⟩ := HOC.out
        rw [applyW_length] at ho
        obtain ⟨g', cap, hv, _⟩ := ho.form (by omega)
        injection hv with hv
        exact ⟨g', hv⟩
      subst eC
      obtain ⟨hc0, hc1⟩ := Kd.R_celln ByteArray.empty HOC.out (rd_T70 waits i).f0 hin0 (by omega)
      have HS := Aside0.mk (applyW_snoc cells waits i hlt)
      have hm := HLEN.out
      have p0 := eq_true hin0
      have p1 : ((rd_T70 waits ↑i).f0 < (cells.length : Int)) = True := eq_true hin1
      have hlt' : i < waits.length := hlt
      clear hi hlt HC hin0 hin1
      have hgl : g < wr.heap.size := (Array.getElem?_eq_some_iff.1 BK.out).1
      have hgC : gC < wr.heap.size := Kd.R_lt HOC.out gC rfl
      go_wp2
      all_goals go_region
      go_wp2
      go_roundg k1
      case measure => omega
      case rel =>
        refine ⟨i + 1, by go_num, ⟨by have := HI.out; omega⟩, ⟨?_⟩⟩
        rw [HS.out]
        exact diskAt_step GE.out BK.out HOC.out HO.out HB.out _ _ _

theorem diskAt_made {w0 w1 : World} {g : Nat} {vC vW : Value} {cells : List ByteArray} {waits : List S70} {room left : Int} (GE : w0.heap.size ≤ g) (BK : w1.heap[g]? = some (.cells #[.slice none 0 0, .slice none 0 0, .int .i64 0, .int .i64 0] 26 (0, 0))) (HOC : Kd.R Kd.string 9 w1 w0.heap.size (fun _ => True) vC cells) (HO : Kd.R k70 70 w1 w0.heap.size (fun _ => True) vW waits) (HB : Below w0.heap.size w0 w1) :
    DiskAt w0 ((((w1.setCell ⟨g, 0, none⟩ vC).setCell ⟨g, 1, none⟩ vW).setCell ⟨g, 2, none⟩ (.int .i64 room)).setCell ⟨g, 3, none⟩ (.int .i64 left)) g vC vW cells waits room left := by
  have B1 := qP (cs := #[.slice none 0 0, .slice none 0 0, .int .i64 0, .int .i64 0]) BK 0 vC rfl
  have B2 := qP (cs := #[vC, .slice none 0 0, .int .i64 0, .int .i64 0]) B1 1 vW rfl
  have B3 := qP (cs := #[vC, vW, .int .i64 0, .int .i64 0]) B2 2 (.int .i64 room) rfl
  have B4 := qP (cs := #[vC, vW, .int .i64 room, .int .i64 0]) B3 3 (.int .i64 left) rfl
  exact ⟨GE, B4, Kd.R_set (Kd.R_set (Kd.R_set (Kd.R_set HOC BK (by decide) _ _) B1 (by decide) _ _) B2 (by decide) _ _) B3 (by decide) _ _, Kd.R_set (Kd.R_set (Kd.R_set (Kd.R_set HO BK (by decide) _ _) B1 (by decide) _ _) B2 (by decide) _ _) B3 (by decide) _ _, qB (qB (qB (qB HB GE) GE) GE) GE⟩

theorem copyOf_ok (l0 : List ByteArray) (l1 : List S70) (a b : Int) (h0 : l0.length < 1000) (h1 : l1.length < 1000) : impl_Disk_copyOf.f l0 l1 a b = some (l0, l1, a, b) := by
  have e0 : l0.length < 8796093022208 := by omega
  have e1 : l1.length < 5864062014805 := by omega
  simp [impl_Disk_copyOf.f, impl_clone_string.f, impl_Wait.f, e0, e1]
def writeD (cells : List ByteArray) (waits : List S70) (room left at_ : Int) (text : ByteArray) : List ByteArray × List S70 × Int × Int × Bool :=
  if (left == 0) = true then (cells, waits, room, left, true) else if writeOk waits room left at_ text = true then (cells, waits ++ [⟨at_, text⟩], lessP room, lessP left, true) else (cells, waits, room, left, false)

set_option maxHeartbeats 4000000 in
set_option maxRecDepth 100000 in
theorem impl_DiskWrite.bad (A0_0 : Option Addr) (c0_0 : Nat) (l0_0 : List ByteArray) (A0_1 : Option Addr) (c0_1 : Nat) (l0_1 : List (S70)) (a0_2 : Int) (a0_3 : Int) (a1 : Int) (a2 : ByteArray) (w : World) (hr0_0 : Kd.C Kd.string w A0_0 l0_0.length l0_0) (hc0_0 : l0_0.length ≤ c0_0) (hr0_1 : Kd.C k70 w A0_1 l0_1.length l0_1) (hc0_1 : l0_1.length ≤ c0_1) (h : impl_DiskOk.f l0_0 l0_1 a0_2 a0_3 = some false) :
    Calls Try.prog 16 #[.agg #[.slice A0_0 l0_0.length c0_0, .slice A0_1 l0_1.length c0_1, .int .i64 a0_2, .int .i64 a0_3], .int .i64 a1, .string a2] w fun e w' => e = .returned (.tuple #[.agg #[.slice none 0 0, .slice none 0 0, .int .i64 0, .int .i64 0], .bool false]) ∧ Below w.heap.size w w' := by
  have hu26 := Try.underlying26
  have HR0 := Aside0.mk hr0_0
  have HC0 := Aside0.mk hc0_0
  have HR1 := Aside0.mk hr0_1
  have HC1 := Aside0.mk hc0_1
  have HH := Aside0.mk h
  have HB := Aside0.mk (Below.refl w.heap.size w)
  clear hr0_0 hc0_0 hr0_1 hc0_1 h
  go_enter Try.func16, Try.ntmps16
  go_wp2_with (first | ((with_reducible refine zB (N := 3) rfl ?_); (try (refine xC (by rfl) ?_; dsimp only)); refine qZ ?hg (N := 3) ?hd (cs := #[.slice A0_0 l0_0.length c0_0, .slice A0_1 l0_1.length c0_1, .int .i64 a0_2, .int .i64 a0_3]) (t := 26) ?hr ?_; (case hd => rfl); (case hg => rfl); (case hr => first | (go_simp; done) | (go_simp; rfl)); intro gA hg w1 hbox hb; have BKgA := Aside0.mk hbox; have HB1 := Aside0.mk (qN HB.out hb); have GEgA := Aside0.mk (by rw [hg]; exact HB.out.size : w.heap.size ≤ gA); clear HB; have HB := HB1; clear HB1; clear hbox hg; have hzgA_0 : w1.cell? ⟨gA, 0, none⟩ = some (.slice A0_0 l0_0.length c0_0) := (qA BKgA.out 0).trans rfl; have hfgA_0 : w1.frozen? ⟨gA, 0, none⟩ = false := qD BKgA.out 0; have hzgA_1 : w1.cell? ⟨gA, 1, none⟩ = some (.slice A0_1 l0_1.length c0_1) := (qA BKgA.out 1).trans rfl; have hfgA_1 : w1.frozen? ⟨gA, 1, none⟩ = false := qD BKgA.out 1; have hzgA_2 : w1.cell? ⟨gA, 2, none⟩ = some (.int .i64 a0_2) := (qA BKgA.out 2).trans rfl; have hfgA_2 : w1.frozen? ⟨gA, 2, none⟩ = false := qD BKgA.out 2; have hzgA_3 : w1.cell? ⟨gA, 3, none⟩ = some (.int .i64 a0_3) := (qA BKgA.out 3).trans rfl; have hfgA_3 : w1.frozen? ⟨gA, 3, none⟩ = false := qD BKgA.out 3; clear hb) | ((with_reducible refine zB (N := 6) rfl ?_); (try (refine xC (by rfl) ?_; dsimp only)); refine qZ ?hg (N := 6) ?hd (cs := #[.slice none 0 0, .slice none 0 0, .int .i64 0, .int .i64 0]) (t := 26) ?hr ?_; (case hd => rfl); (case hg => rfl); (case hr => first | (go_simp; done) | (go_simp; rfl)); intro gR hg w2 hbox hb; have BK1 := Aside0.mk (qJ BKgA.out hb); have NEgA_gR := Aside0.mk (by rw [hg]; exact Nat.ne_of_lt (zE BKgA.out) : gA ≠ gR); clear BKgA; have BKgA := BK1; clear BK1; have BKgR := Aside0.mk hbox; have HB1 := Aside0.mk (qN HB.out hb); have GEgR := Aside0.mk (by rw [hg]; exact HB.out.size : w.heap.size ≤ gR); clear HB; have HB := HB1; clear HB1; clear hbox hg; clear hzgA_0 hfgA_0 hzgA_1 hfgA_1 hzgA_2 hfgA_2 hzgA_3 hfgA_3; have hzgA_0 : w2.cell? ⟨gA, 0, none⟩ = some (.slice A0_0 l0_0.length c0_0) := (qA BKgA.out 0).trans rfl; have hfgA_0 : w2.frozen? ⟨gA, 0, none⟩ = false := qD BKgA.out 0; have hzgA_1 : w2.cell? ⟨gA, 1, none⟩ = some (.slice A0_1 l0_1.length c0_1) := (qA BKgA.out 1).trans rfl; have hfgA_1 : w2.frozen? ⟨gA, 1, none⟩ = false := qD BKgA.out 1; have hzgA_2 : w2.cell? ⟨gA, 2, none⟩ = some (.int .i64 a0_2) := (qA BKgA.out 2).trans rfl; have hfgA_2 : w2.frozen? ⟨gA, 2, none⟩ = false := qD BKgA.out 2; have hzgA_3 : w2.cell? ⟨gA, 3, none⟩ = some (.int .i64 a0_3) := (qA BKgA.out 3).trans rfl; have hfgA_3 : w2.frozen? ⟨gA, 3, none⟩ = false := qD BKgA.out 3; have hzgR_0 : w2.cell? ⟨gR, 0, none⟩ = some (.slice none 0 0) := (qA BKgR.out 0).trans rfl; have hfgR_0 : w2.frozen? ⟨gR, 0, none⟩ = false := qD BKgR.out 0; have hzgR_1 : w2.cell? ⟨gR, 1, none⟩ = some (.slice none 0 0) := (qA BKgR.out 1).trans rfl; have hfgR_1 : w2.frozen? ⟨gR, 1, none⟩ = false := qD BKgR.out 1; have hzgR_2 : w2.cell? ⟨gR, 2, none⟩ = some (.int .i64 0) := (qA BKgR.out 2).trans rfl; have hfgR_2 : w2.frozen? ⟨gR, 2, none⟩ = false := qD BKgR.out 2; have hzgR_3 : w2.cell? ⟨gR, 3, none⟩ = some (.int .i64 0) := (qA BKgR.out 3).trans rfl; have hfgR_3 : w2.frozen? ⟨gR, 3, none⟩ = false := qD BKgR.out 3; clear hb) | (go_at_call 22; refine (impl_DiskOk.calls _ _ _ _ _ _ _ _ _ _ (Kd.zI HR0.out HB.out) HC0.out (Kd.zI HR1.out HB.out) HC1.out HH.out).mono ?_; rintro e w3 ⟨rfl, hb⟩; have HB1 := Aside0.mk (qN HB.out hb); clear HB; have HB := HB1; clear HB1; have BK1 := Aside0.mk (qJ BKgA.out hb); clear BKgA; have BKgA := BK1; clear BK1; clear hzgA_0 hfgA_0 hzgA_1 hfgA_1 hzgA_2 hfgA_2 hzgA_3 hfgA_3; have hzgA_0 : w3.cell? ⟨gA, 0, none⟩ = some (.slice A0_0 l0_0.length c0_0) := (qA BKgA.out 0).trans rfl; have hfgA_0 : w3.frozen? ⟨gA, 0, none⟩ = false := qD BKgA.out 0; have hzgA_1 : w3.cell? ⟨gA, 1, none⟩ = some (.slice A0_1 l0_1.length c0_1) := (qA BKgA.out 1).trans rfl; have hfgA_1 : w3.frozen? ⟨gA, 1, none⟩ = false := qD BKgA.out 1; have hzgA_2 : w3.cell? ⟨gA, 2, none⟩ = some (.int .i64 a0_2) := (qA BKgA.out 2).trans rfl; have hfgA_2 : w3.frozen? ⟨gA, 2, none⟩ = false := qD BKgA.out 2; have hzgA_3 : w3.cell? ⟨gA, 3, none⟩ = some (.int .i64 a0_3) := (qA BKgA.out 3).trans rfl; have hfgA_3 : w3.frozen? ⟨gA, 3, none⟩ = false := qD BKgA.out 3; have BK1 := Aside0.mk (qJ BKgR.out hb); clear BKgR; have BKgR := BK1; clear BK1; clear hzgR_0 hfgR_0 hzgR_1 hfgR_1 hzgR_2 hfgR_2 hzgR_3 hfgR_3; have hzgR_0 : w3.cell? ⟨gR, 0, none⟩ = some (.slice none 0 0) := (qA BKgR.out 0).trans rfl; have hfgR_0 : w3.frozen? ⟨gR, 0, none⟩ = false := qD BKgR.out 0; have hzgR_1 : w3.cell? ⟨gR, 1, none⟩ = some (.slice none 0 0) := (qA BKgR.out 1).trans rfl; have hfgR_1 : w3.frozen? ⟨gR, 1, none⟩ = false := qD BKgR.out 1; have hzgR_2 : w3.cell? ⟨gR, 2, none⟩ = some (.int .i64 0) := (qA BKgR.out 2).trans rfl; have hfgR_2 : w3.frozen? ⟨gR, 2, none⟩ = false := qD BKgR.out 2; have hzgR_3 : w3.cell? ⟨gR, 3, none⟩ = some (.int .i64 0) := (qA BKgR.out 3).trans rfl; have hfgR_3 : w3.frozen? ⟨gR, 3, none⟩ = false := qD BKgR.out 3; clear hb))
  refine bodyPost_ret (results_ct rfl _ _ gR 26 #[.slice none 0 0, .slice none 0 0, .int .i64 0, .int .i64 0] (0, 0) _ rfl ?_ hu26 rfl (by kernel_rfl)) rfl ?_
  · refine qP (cs := #[.slice none 0 0, .slice none 0 0, .int .i64 0, .int .i64 0]) ?_ 3 _ rfl; refine qP (cs := #[.slice none 0 0, .slice none 0 0, .int .i64 0, .int .i64 0]) ?_ 2 _ rfl; refine qP (cs := #[.slice none 0 0, .slice none 0 0, .int .i64 0, .int .i64 0]) ?_ 1 _ rfl; refine qP (cs := #[.slice none 0 0, .slice none 0 0, .int .i64 0, .int .i64 0]) ?_ 0 _ rfl; exact BKgR.out
  · exact ⟨rfl, qB (qB (qB (qB HB.out GEgR.out) GEgR.out) GEgR.out) GEgR.out⟩

set_option maxHeartbeats 8000000 in
set_option maxRecDepth 100000 in
theorem impl_DiskWrite.good (A0_0 : Option Addr) (c0_0 : Nat) (l0_0 : List ByteArray) (A0_1 : Option Addr) (c0_1 : Nat) (l0_1 : List (S70)) (a0_2 : Int) (a0_3 : Int) (a1 : Int) (a2 : ByteArray) (r1 : List ByteArray) (r2 : List S70) (r3 r4 : Int) (r5 : Bool) (w : World) (hr0_0 : Kd.C Kd.string w A0_0 l0_0.length l0_0) (hc0_0 : l0_0.length ≤ c0_0) (hr0_1 : Kd.C k70 w A0_1 l0_1.length l0_1) (hc0_1 : l0_1.length ≤ c0_1) (h : impl_DiskOk.f l0_0 l0_1 a0_2 a0_3 = some true) (hs0 : l0_0.length < 1000) (hs1 : l0_1.length ≤ 100)
    (hW : ∀ (g : Nat) (vC vW : Value) (w0 w : World), DiskAt w0 w g vC vW l0_0 l0_1 a0_2 a0_3 → Calls Try.prog 39 #[.pointer (some ⟨g, 0, none⟩), .int .i64 a1, .string a2] w fun e w' => ∃ vW', e = .returned (.bool r5) ∧ DiskAt w0 w' g vC vW' r1 r2 r3 r4) (hs2 : r1.length < 1000) (hs3 : r2.length < 1000) :
    Calls Try.prog 16 #[.agg #[.slice A0_0 l0_0.length c0_0, .slice A0_1 l0_1.length c0_1, .int .i64 a0_2, .int .i64 a0_3], .int .i64 a1, .string a2] w fun e w' => ∃ v0_ v1_ : Value, e = .returned (.tuple #[.agg #[v0_, v1_, .int .i64 r3, .int .i64 r4], .bool r5]) ∧ Kd.R Kd.string 9 w' w.heap.size (fun _ => True) v0_ r1 ∧ Kd.R k70 70 w' w.heap.size (fun _ => True) v1_ r2 ∧ Below w.heap.size w w' := by
  have hu26 := Try.underlying26
  have HR0 := Aside0.mk hr0_0
  have HC0 := Aside0.mk hc0_0
  have HR1 := Aside0.mk hr0_1
  have HC1 := Aside0.mk hc0_1
  have HH := Aside0.mk h
  have HW := Aside0.mk hW
  have HB := Aside0.mk (Below.refl w.heap.size w)
  have F1 : Aside0 (impl_Disk_copyOf.f l0_0 l0_1 a0_2 a0_3 = some (l0_0, l0_1, a0_2, a0_3)) := ⟨copyOf_ok _ _ _ _ hs0 (by omega)⟩
  have F2 : Aside0 (impl_Disk_copyOf.f r1 r2 r3 r4 = some (r1, r2, r3, r4)) := ⟨copyOf_ok _ _ _ _ hs2 hs3⟩
  clear hr0_0 hc0_0 hr0_1 hc0_1 h hs0 hs1 hs2 hs3 hW
  go_enter Try.func16, Try.ntmps16
  go_wp2_with (first | ((with_reducible refine zB (N := 3) rfl ?_); (try (refine xC (by rfl) ?_; dsimp only)); refine qZ ?hg (N := 3) ?hd (cs := #[.slice A0_0 l0_0.length c0_0, .slice A0_1 l0_1.length c0_1, .int .i64 a0_2, .int .i64 a0_3]) (t := 26) ?hr ?_; (case hd => rfl); (case hg => rfl); (case hr => first | (go_simp; done) | (go_simp; rfl)); intro gA hg w1 hbox hb; have BKgA := Aside0.mk hbox; have HB1 := Aside0.mk (qN HB.out hb); have GEgA := Aside0.mk (by rw [hg]; exact HB.out.size : w.heap.size ≤ gA); clear HB; have HB := HB1; clear HB1; clear hbox hg; have hzgA_0 : w1.cell? ⟨gA, 0, none⟩ = some (.slice A0_0 l0_0.length c0_0) := (qA BKgA.out 0).trans rfl; have hfgA_0 : w1.frozen? ⟨gA, 0, none⟩ = false := qD BKgA.out 0; have hzgA_1 : w1.cell? ⟨gA, 1, none⟩ = some (.slice A0_1 l0_1.length c0_1) := (qA BKgA.out 1).trans rfl; have hfgA_1 : w1.frozen? ⟨gA, 1, none⟩ = false := qD BKgA.out 1; have hzgA_2 : w1.cell? ⟨gA, 2, none⟩ = some (.int .i64 a0_2) := (qA BKgA.out 2).trans rfl; have hfgA_2 : w1.frozen? ⟨gA, 2, none⟩ = false := qD BKgA.out 2; have hzgA_3 : w1.cell? ⟨gA, 3, none⟩ = some (.int .i64 a0_3) := (qA BKgA.out 3).trans rfl; have hfgA_3 : w1.frozen? ⟨gA, 3, none⟩ = false := qD BKgA.out 3; clear hb) | ((with_reducible refine zB (N := 6) rfl ?_); (try (refine xC (by rfl) ?_; dsimp only)); refine qZ ?hg (N := 6) ?hd (cs := #[.slice none 0 0, .slice none 0 0, .int .i64 0, .int .i64 0]) (t := 26) ?hr ?_; (case hd => rfl); (case hg => rfl); (case hr => first | (go_simp; done) | (go_simp; rfl)); intro gR hg w2 hbox hb; have BK1 := Aside0.mk (qJ BKgA.out hb); have NEgA_gR := Aside0.mk (by rw [hg]; exact Nat.ne_of_lt (zE BKgA.out) : gA ≠ gR); clear BKgA; have BKgA := BK1; clear BK1; have BKgR := Aside0.mk hbox; have HB1 := Aside0.mk (qN HB.out hb); have GEgR := Aside0.mk (by rw [hg]; exact HB.out.size : w.heap.size ≤ gR); clear HB; have HB := HB1; clear HB1; clear hbox hg; clear hzgA_0 hfgA_0 hzgA_1 hfgA_1 hzgA_2 hfgA_2 hzgA_3 hfgA_3; have hzgA_0 : w2.cell? ⟨gA, 0, none⟩ = some (.slice A0_0 l0_0.length c0_0) := (qA BKgA.out 0).trans rfl; have hfgA_0 : w2.frozen? ⟨gA, 0, none⟩ = false := qD BKgA.out 0; have hzgA_1 : w2.cell? ⟨gA, 1, none⟩ = some (.slice A0_1 l0_1.length c0_1) := (qA BKgA.out 1).trans rfl; have hfgA_1 : w2.frozen? ⟨gA, 1, none⟩ = false := qD BKgA.out 1; have hzgA_2 : w2.cell? ⟨gA, 2, none⟩ = some (.int .i64 a0_2) := (qA BKgA.out 2).trans rfl; have hfgA_2 : w2.frozen? ⟨gA, 2, none⟩ = false := qD BKgA.out 2; have hzgA_3 : w2.cell? ⟨gA, 3, none⟩ = some (.int .i64 a0_3) := (qA BKgA.out 3).trans rfl; have hfgA_3 : w2.frozen? ⟨gA, 3, none⟩ = false := qD BKgA.out 3; have hzgR_0 : w2.cell? ⟨gR, 0, none⟩ = some (.slice none 0 0) := (qA BKgR.out 0).trans rfl; have hfgR_0 : w2.frozen? ⟨gR, 0, none⟩ = false := qD BKgR.out 0; have hzgR_1 : w2.cell? ⟨gR, 1, none⟩ = some (.slice none 0 0) := (qA BKgR.out 1).trans rfl; have hfgR_1 : w2.frozen? ⟨gR, 1, none⟩ = false := qD BKgR.out 1; have hzgR_2 : w2.cell? ⟨gR, 2, none⟩ = some (.int .i64 0) := (qA BKgR.out 2).trans rfl; have hfgR_2 : w2.frozen? ⟨gR, 2, none⟩ = false := qD BKgR.out 2; have hzgR_3 : w2.cell? ⟨gR, 3, none⟩ = some (.int .i64 0) := (qA BKgR.out 3).trans rfl; have hfgR_3 : w2.frozen? ⟨gR, 3, none⟩ = false := qD BKgR.out 3; clear hb) | (go_at_call 22; refine (impl_DiskOk.calls _ _ _ _ _ _ _ _ _ _ (Kd.zI HR0.out HB.out) HC0.out (Kd.zI HR1.out HB.out) HC1.out HH.out).mono ?_; rintro e w3 ⟨rfl, hb⟩; have HB1 := Aside0.mk (qN HB.out hb); clear HB; have HB := HB1; clear HB1; have BK1 := Aside0.mk (qJ BKgA.out hb); clear BKgA; have BKgA := BK1; clear BK1; clear hzgA_0 hfgA_0 hzgA_1 hfgA_1 hzgA_2 hfgA_2 hzgA_3 hfgA_3; have hzgA_0 : w3.cell? ⟨gA, 0, none⟩ = some (.slice A0_0 l0_0.length c0_0) := (qA BKgA.out 0).trans rfl; have hfgA_0 : w3.frozen? ⟨gA, 0, none⟩ = false := qD BKgA.out 0; have hzgA_1 : w3.cell? ⟨gA, 1, none⟩ = some (.slice A0_1 l0_1.length c0_1) := (qA BKgA.out 1).trans rfl; have hfgA_1 : w3.frozen? ⟨gA, 1, none⟩ = false := qD BKgA.out 1; have hzgA_2 : w3.cell? ⟨gA, 2, none⟩ = some (.int .i64 a0_2) := (qA BKgA.out 2).trans rfl; have hfgA_2 : w3.frozen? ⟨gA, 2, none⟩ = false := qD BKgA.out 2; have hzgA_3 : w3.cell? ⟨gA, 3, none⟩ = some (.int .i64 a0_3) := (qA BKgA.out 3).trans rfl; have hfgA_3 : w3.frozen? ⟨gA, 3, none⟩ = false := qD BKgA.out 3; have BK1 := Aside0.mk (qJ BKgR.out hb); clear BKgR; have BKgR := BK1; clear BK1; clear hzgR_0 hfgR_0 hzgR_1 hfgR_1 hzgR_2 hfgR_2 hzgR_3 hfgR_3; have hzgR_0 : w3.cell? ⟨gR, 0, none⟩ = some (.slice none 0 0) := (qA BKgR.out 0).trans rfl; have hfgR_0 : w3.frozen? ⟨gR, 0, none⟩ = false := qD BKgR.out 0; have hzgR_1 : w3.cell? ⟨gR, 1, none⟩ = some (.slice none 0 0) := (qA BKgR.out 1).trans rfl; have hfgR_1 : w3.frozen? ⟨gR, 1, none⟩ = false := qD BKgR.out 1; have hzgR_2 : w3.cell? ⟨gR, 2, none⟩ = some (.int .i64 0) := (qA BKgR.out 2).trans rfl; have hfgR_2 : w3.frozen? ⟨gR, 2, none⟩ = false := qD BKgR.out 2; have hzgR_3 : w3.cell? ⟨gR, 3, none⟩ = some (.int .i64 0) := (qA BKgR.out 3).trans rfl; have hfgR_3 : w3.frozen? ⟨gR, 3, none⟩ = false := qD BKgR.out 3; clear hb) | (go_at_call_of 35 (Value.agg #[Value.slice A0_0 l0_0.length c0_0, Value.slice A0_1 l0_1.length c0_1, Value.int .i64 a0_2, Value.int .i64 a0_3]); refine (impl_Disk_copyOf.calls _ _ _ _ _ _ _ _ _ _ _ _ _ (Kd.zI HR0.out HB.out) HC0.out (Kd.zI HR1.out HB.out) HC1.out F1.out).mono ?_; rintro e w4 ⟨vC, vW, rfl, hoC, hoW, hb⟩; have BR3 := BKgR; have HW3 := HB; have HB1 := Aside0.mk (qN HB.out hb); clear HB; have HB := HB1; clear HB1; have BK1 := Aside0.mk (qJ BKgA.out hb); clear BKgA; have BKgA := BK1; clear BK1; clear hzgA_0 hfgA_0 hzgA_1 hfgA_1 hzgA_2 hfgA_2 hzgA_3 hfgA_3; have hzgA_0 : w4.cell? ⟨gA, 0, none⟩ = some (.slice A0_0 l0_0.length c0_0) := (qA BKgA.out 0).trans rfl; have hfgA_0 : w4.frozen? ⟨gA, 0, none⟩ = false := qD BKgA.out 0; have hzgA_1 : w4.cell? ⟨gA, 1, none⟩ = some (.slice A0_1 l0_1.length c0_1) := (qA BKgA.out 1).trans rfl; have hfgA_1 : w4.frozen? ⟨gA, 1, none⟩ = false := qD BKgA.out 1; have hzgA_2 : w4.cell? ⟨gA, 2, none⟩ = some (.int .i64 a0_2) := (qA BKgA.out 2).trans rfl; have hfgA_2 : w4.frozen? ⟨gA, 2, none⟩ = false := qD BKgA.out 2; have hzgA_3 : w4.cell? ⟨gA, 3, none⟩ = some (.int .i64 a0_3) := (qA BKgA.out 3).trans rfl; have hfgA_3 : w4.frozen? ⟨gA, 3, none⟩ = false := qD BKgA.out 3; have BK1 := Aside0.mk (qJ BKgR.out hb); clear BKgR; have BKgR := BK1; clear BK1; clear hzgR_0 hfgR_0 hzgR_1 hfgR_1 hzgR_2 hfgR_2 hzgR_3 hfgR_3; have hzgR_0 : w4.cell? ⟨gR, 0, none⟩ = some (.slice none 0 0) := (qA BKgR.out 0).trans rfl; have hfgR_0 : w4.frozen? ⟨gR, 0, none⟩ = false := qD BKgR.out 0; have hzgR_1 : w4.cell? ⟨gR, 1, none⟩ = some (.slice none 0 0) := (qA BKgR.out 1).trans rfl; have hfgR_1 : w4.frozen? ⟨gR, 1, none⟩ = false := qD BKgR.out 1; have hzgR_2 : w4.cell? ⟨gR, 2, none⟩ = some (.int .i64 0) := (qA BKgR.out 2).trans rfl; have hfgR_2 : w4.frozen? ⟨gR, 2, none⟩ = false := qD BKgR.out 2; have hzgR_3 : w4.cell? ⟨gR, 3, none⟩ = some (.int .i64 0) := (qA BKgR.out 3).trans rfl; have hfgR_3 : w4.frozen? ⟨gR, 3, none⟩ = false := qD BKgR.out 3; obtain ⟨AC, cC, eC⟩ := Kd.zG hoC; subst eC; obtain ⟨AW, cW, eW⟩ := Kd.zG hoW; subst eW; have HOC := Aside0.mk hoC; have HOW := Aside0.mk hoW; have HB3 := Aside0.mk hb; clear hb hoC hoW) | ((with_reducible refine zB (N := 8) rfl ?_); (try (refine xC (by rfl) ?_; dsimp only)); refine qZ ?hg (N := 8) ?hd (cs := #[.slice none 0 0, .slice none 0 0, .int .i64 0, .int .i64 0]) (t := 26) ?hr ?_; (case hd => rfl); (case hg => rfl); (case hr => first | (go_simp; done) | (go_simp; rfl)); intro gO hg w5 hbox hb; have BK1 := Aside0.mk (qJ BKgA.out hb); have NEgA_gO := Aside0.mk (by rw [hg]; exact Nat.ne_of_lt (zE BKgA.out) : gA ≠ gO); clear BKgA; have BKgA := BK1; clear BK1; have BK1 := Aside0.mk (qJ BKgR.out hb); have NEgR_gO := Aside0.mk (by rw [hg]; exact Nat.ne_of_lt (zE BKgR.out) : gR ≠ gO); clear BKgR; have BKgR := BK1; clear BK1; have BKgO := Aside0.mk hbox; have HB1 := Aside0.mk (qN HB.out hb); have GEgO := Aside0.mk (by rw [hg]; exact HB.out.size : w.heap.size ≤ gO); have GO := Aside0.mk (by rw [hg]; exact HB3.out.size : w3.heap.size ≤ gO); clear HB; have HB := HB1; clear HB1; clear hbox hg; clear hzgA_0 hfgA_0 hzgA_1 hfgA_1 hzgA_2 hfgA_2 hzgA_3 hfgA_3; have hzgA_0 : w5.cell? ⟨gA, 0, none⟩ = some (.slice A0_0 l0_0.length c0_0) := (qA BKgA.out 0).trans rfl; have hfgA_0 : w5.frozen? ⟨gA, 0, none⟩ = false := qD BKgA.out 0; have hzgA_1 : w5.cell? ⟨gA, 1, none⟩ = some (.slice A0_1 l0_1.length c0_1) := (qA BKgA.out 1).trans rfl; have hfgA_1 : w5.frozen? ⟨gA, 1, none⟩ = false := qD BKgA.out 1; have hzgA_2 : w5.cell? ⟨gA, 2, none⟩ = some (.int .i64 a0_2) := (qA BKgA.out 2).trans rfl; have hfgA_2 : w5.frozen? ⟨gA, 2, none⟩ = false := qD BKgA.out 2; have hzgA_3 : w5.cell? ⟨gA, 3, none⟩ = some (.int .i64 a0_3) := (qA BKgA.out 3).trans rfl; have hfgA_3 : w5.frozen? ⟨gA, 3, none⟩ = false := qD BKgA.out 3; clear hzgR_0 hfgR_0 hzgR_1 hfgR_1 hzgR_2 hfgR_2 hzgR_3 hfgR_3; have hzgR_0 : w5.cell? ⟨gR, 0, none⟩ = some (.slice none 0 0) := (qA BKgR.out 0).trans rfl; have hfgR_0 : w5.frozen? ⟨gR, 0, none⟩ = false := qD BKgR.out 0; have hzgR_1 : w5.cell? ⟨gR, 1, none⟩ = some (.slice none 0 0) := (qA BKgR.out 1).trans rfl; have hfgR_1 : w5.frozen? ⟨gR, 1, none⟩ = false := qD BKgR.out 1; have hzgR_2 : w5.cell? ⟨gR, 2, none⟩ = some (.int .i64 0) := (qA BKgR.out 2).trans rfl; have hfgR_2 : w5.frozen? ⟨gR, 2, none⟩ = false := qD BKgR.out 2; have hzgR_3 : w5.cell? ⟨gR, 3, none⟩ = some (.int .i64 0) := (qA BKgR.out 3).trans rfl; have hfgR_3 : w5.frozen? ⟨gR, 3, none⟩ = false := qD BKgR.out 3; have hzgO_0 : w5.cell? ⟨gO, 0, none⟩ = some (.slice none 0 0) := (qA BKgO.out 0).trans rfl; have hfgO_0 : w5.frozen? ⟨gO, 0, none⟩ = false := qD BKgO.out 0; have hzgO_1 : w5.cell? ⟨gO, 1, none⟩ = some (.slice none 0 0) := (qA BKgO.out 1).trans rfl; have hfgO_1 : w5.frozen? ⟨gO, 1, none⟩ = false := qD BKgO.out 1; have hzgO_2 : w5.cell? ⟨gO, 2, none⟩ = some (.int .i64 0) := (qA BKgO.out 2).trans rfl; have hfgO_2 : w5.frozen? ⟨gO, 2, none⟩ = false := qD BKgO.out 2; have hzgO_3 : w5.cell? ⟨gO, 3, none⟩ = some (.int .i64 0) := (qA BKgO.out 3).trans rfl; have hfgO_3 : w5.frozen? ⟨gO, 3, none⟩ = false := qD BKgO.out 3; have HOC1 := Aside0.mk (Kd.qU HOC.out hb); have HOW1 := Aside0.mk (Kd.qU HOW.out hb); have HB4 := Aside0.mk (xG HB3.out HB3.out.size hb); clear hb) | (go_at_call 39; refine (HW.out gO _ _ w3 _ (diskAt_made GO.out BKgO.out HOC1.out HOW1.out HB4.out)).mono ?_; rintro e w6 ⟨vW', rfl, hD⟩; obtain ⟨A1, c1, e1, hle1, hC1⟩ := Kd.R_reads hD.2.2.1; obtain ⟨A2, c2, e2, hle2, hC2⟩ := Kd.R_reads hD.2.2.2.1; subst e2; rw [e1] at hD; have BKgO1 := Aside0.mk hD.2.1; have HB1 := Aside0.mk (xG HW3.out HW3.out.size hD.2.2.2.2); have BK1 := Aside0.mk (qJ BR3.out hD.2.2.2.2); clear HB BKgO BKgR; have HB := HB1; have BKgO := BKgO1; have BKgR := BK1; clear HB1 BKgO1 BK1 hD e1; have HC1 := Aside0.mk hC1; have HC2 := Aside0.mk hC2; have HL1 := Aside0.mk hle1; have HL2 := Aside0.mk hle2; clear hC1 hC2 hle1 hle2; clear hzgA_0 hfgA_0 hzgA_1 hfgA_1 hzgA_2 hfgA_2 hzgA_3 hfgA_3; clear hzgR_0 hfgR_0 hzgR_1 hfgR_1 hzgR_2 hfgR_2 hzgR_3 hfgR_3; clear hzgO_0 hfgO_0 hzgO_1 hfgO_1 hzgO_2 hfgO_2 hzgO_3 hfgO_3; have hzgR_0 : w6.cell? ⟨gR, 0, none⟩ = some (.slice none 0 0) := (qA BKgR.out 0).trans rfl; have hfgR_0 : w6.frozen? ⟨gR, 0, none⟩ = false := qD BKgR.out 0; have hzgR_1 : w6.cell? ⟨gR, 1, none⟩ = some (.slice none 0 0) := (qA BKgR.out 1).trans rfl; have hfgR_1 : w6.frozen? ⟨gR, 1, none⟩ = false := qD BKgR.out 1; have hzgR_2 : w6.cell? ⟨gR, 2, none⟩ = some (.int .i64 0) := (qA BKgR.out 2).trans rfl; have hfgR_2 : w6.frozen? ⟨gR, 2, none⟩ = false := qD BKgR.out 2; have hzgR_3 : w6.cell? ⟨gR, 3, none⟩ = some (.int .i64 0) := (qA BKgR.out 3).trans rfl; have hfgR_3 : w6.frozen? ⟨gR, 3, none⟩ = false := qD BKgR.out 3; have hzgO_0 : w6.cell? ⟨gO, 0, none⟩ = some (.slice A1 r1.length c1) := (qA BKgO.out 0).trans rfl; have hfgO_0 : w6.frozen? ⟨gO, 0, none⟩ = false := qD BKgO.out 0; have hzgO_1 : w6.cell? ⟨gO, 1, none⟩ = some (.slice A2 r2.length c2) := (qA BKgO.out 1).trans rfl; have hfgO_1 : w6.frozen? ⟨gO, 1, none⟩ = false := qD BKgO.out 1; have hzgO_2 : w6.cell? ⟨gO, 2, none⟩ = some (.int .i64 r3) := (qA BKgO.out 2).trans rfl; have hfgO_2 : w6.frozen? ⟨gO, 2, none⟩ = false := qD BKgO.out 2; have hzgO_3 : w6.cell? ⟨gO, 3, none⟩ = some (.int .i64 r4) := (qA BKgO.out 3).trans rfl; have hfgO_3 : w6.frozen? ⟨gO, 3, none⟩ = false := qD BKgO.out 3) | (go_at_call_of 35 (Value.agg #[Value.slice A1 r1.length c1, Value.slice A2 r2.length c2, Value.int .i64 r3, Value.int .i64 r4]); refine (impl_Disk_copyOf.calls _ _ _ _ _ _ _ _ _ _ _ _ _ HC1.out HL1.out HC2.out HL2.out F2.out).mono ?_; rintro e w7 ⟨v0, v1, rfl, ho0, ho1, hb⟩; obtain ⟨A3, c3, e3⟩ := Kd.zG ho0; subst e3; obtain ⟨A4, c4, e4⟩ := Kd.zG ho1; subst e4; have HO3 := Aside0.mk (Kd.zJ ho0 HB.out.size); have HO4 := Aside0.mk (Kd.zJ ho1 HB.out.size); have HB1 := Aside0.mk (qN HB.out hb); clear HB; have HB := HB1; clear HB1; have BK1 := Aside0.mk (qJ BKgR.out hb); clear BKgR; have BKgR := BK1; clear BK1; clear hzgR_0 hfgR_0 hzgR_1 hfgR_1 hzgR_2 hfgR_2 hzgR_3 hfgR_3; have hzgR_0 : w7.cell? ⟨gR, 0, none⟩ = some (.slice none 0 0) := (qA BKgR.out 0).trans rfl; have hfgR_0 : w7.frozen? ⟨gR, 0, none⟩ = false := qD BKgR.out 0; have hzgR_1 : w7.cell? ⟨gR, 1, none⟩ = some (.slice none 0 0) := (qA BKgR.out 1).trans rfl; have hfgR_1 : w7.frozen? ⟨gR, 1, none⟩ = false := qD BKgR.out 1; have hzgR_2 : w7.cell? ⟨gR, 2, none⟩ = some (.int .i64 0) := (qA BKgR.out 2).trans rfl; have hfgR_2 : w7.frozen? ⟨gR, 2, none⟩ = false := qD BKgR.out 2; have hzgR_3 : w7.cell? ⟨gR, 3, none⟩ = some (.int .i64 0) := (qA BKgR.out 3).trans rfl; have hfgR_3 : w7.frozen? ⟨gR, 3, none⟩ = false := qD BKgR.out 3; clear ho0 ho1 hb))
  refine bodyPost_ret (results_ct rfl _ _ gR 26 #[.slice A3 r1.length c3, .slice A4 r2.length c4, .int .i64 r3, .int .i64 r4] (0, 0) _ rfl ?_ hu26 rfl (by kernel_rfl)) rfl ?_
  · refine qP (cs := #[.slice A3 r1.length c3, .slice A4 r2.length c4, .int .i64 r3, .int .i64 0]) ?_ 3 _ rfl; refine qP (cs := #[.slice A3 r1.length c3, .slice A4 r2.length c4, .int .i64 0, .int .i64 0]) ?_ 2 _ rfl; refine qP (cs := #[.slice A3 r1.length c3, .slice none 0 0, .int .i64 0, .int .i64 0]) ?_ 1 _ rfl; refine qP (cs := #[.slice none 0 0, .slice none 0 0, .int .i64 0, .int .i64 0]) ?_ 0 _ rfl; exact BKgR.out
  · have B1 := qP (cs := #[.slice none 0 0, .slice none 0 0, .int .i64 0, .int .i64 0]) BKgR.out 0 (.slice A3 r1.length c3) rfl
    have B2 := qP (cs := #[.slice A3 r1.length c3, .slice none 0 0, .int .i64 0, .int .i64 0]) B1 1 (.slice A4 r2.length c4) rfl
    have B3 := qP (cs := #[.slice A3 r1.length c3, .slice A4 r2.length c4, .int .i64 0, .int .i64 0]) B2 2 (.int .i64 r3) rfl
    exact ⟨_, _, rfl, Kd.R_set (Kd.R_set (Kd.R_set (Kd.R_set HO3.out BKgR.out (by decide) _ _) B1 (by decide) _ _) B2 (by decide) _ _) B3 (by decide) _ _, Kd.R_set (Kd.R_set (Kd.R_set (Kd.R_set HO4.out BKgR.out (by decide) _ _) B1 (by decide) _ _) B2 (by decide) _ _) B3 (by decide) _ _, qB (qB (qB (qB HB.out GEgR.out) GEgR.out) GEgR.out) GEgR.out⟩

theorem diskOk_lengths {l0 : List ByteArray} {l1 : List S70} {a b : Int} (h : impl_DiskOk.ok l0 l1 a b = true) : l0.length = 42 ∧ l1.length ≤ 100 := by
  unfold impl_DiskOk.ok at h
  simp only [Bool.and_eq_true, decide_eq_true_eq] at h
  omega
def impl_DiskWrite.f (l0_0 : List ByteArray) (l0_1 : List (S70)) (a0_2 : Int) (a0_3 : Int) (a1 : Int) (a2 : ByteArray) : Option (List ByteArray × (List (S70)) × Int × Int × Bool) :=
  if impl_DiskOk.ok l0_0 l0_1 a0_2 a0_3 = true then some (writeD l0_0 l0_1 a0_2 a0_3 a1 a2) else some ([], [], 0, 0, false)
theorem impl_DiskWrite.calls (A0_0 : Option Addr) (c0_0 : Nat) (l0_0 : List ByteArray) (A0_1 : Option Addr) (c0_1 : Nat) (l0_1 : List (S70)) (a0_2 : Int) (a0_3 : Int) (a1 : Int) (a2 : ByteArray) (r1 : List ByteArray) (r2 : List S70) (r3 r4 : Int) (r5 : Bool) (w : World) (hr0_0 : Kd.C Kd.string w A0_0 l0_0.length l0_0) (hc0_0 : l0_0.length ≤ c0_0) (hr0_1 : Kd.C k70 w A0_1 l0_1.length l0_1) (hc0_1 : l0_1.length ≤ c0_1) (h : impl_DiskWrite.f l0_0 l0_1 a0_2 a0_3 a1 a2 = some (r1, r2, r3, r4, r5)) :
    Calls Try.prog 16 #[.agg #[.slice A0_0 l0_0.length c0_0, .slice A0_1 l0_1.length c0_1, .int .i64 a0_2, .int .i64 a0_3], .int .i64 a1, .string a2] w fun e w' => ∃ v0_ v1_ : Value, e = .returned (.tuple #[.agg #[v0_, v1_, .int .i64 r3, .int .i64 r4], .bool r5]) ∧ Kd.R Kd.string 9 w' w.heap.size (fun _ => True) v0_ r1 ∧ Kd.R k70 70 w' w.heap.size (fun _ => True) v1_ r2 ∧ Below w.heap.size w w' := by
  unfold impl_DiskWrite.f at h
  by_cases hk : impl_DiskOk.ok l0_0 l0_1 a0_2 a0_3 = true
  · rw [if_pos hk] at h
    obtain ⟨hl0, hl1⟩ := diskOk_lengths hk
    have hD : impl_DiskOk.f l0_0 l0_1 a0_2 a0_3 = some true := congrArg some hk
    have h1 := Option.some.inj h
    unfold writeD at h1
    split at h1
    · rename_i hl
      simp only [Prod.mk.injEq] at h1
      obtain ⟨rfl, rfl, rfl, rfl, rfl⟩ := h1
      obtain rfl : a0_3 = 0 := by simpa using hl
      exact impl_DiskWrite.good _ _ _ _ _ _ _ _ _ _ _ _ _ _ _ w hr0_0 hc0_0 hr0_1 hc0_1 hD (by omega) hl1 (fun g vC vW w0 w hA => (impl_Disk_write.stopped g vC vW _ _ _ _ _ w0 w hA).mono fun e w' he => ⟨vW, he⟩) (by omega) (by omega)
    · rename_i hl
      have hl' : (a0_3 == 0) = false := by simpa using hl
      split at h1
      · rename_i ho
        simp only [Prod.mk.injEq] at h1
        obtain ⟨rfl, rfl, rfl, rfl, rfl⟩ := h1
        exact impl_DiskWrite.good _ _ _ _ _ _ _ _ _ _ _ _ _ _ _ w hr0_0 hc0_0 hr0_1 hc0_1 hD (by omega) hl1 (fun g vC vW w0 w hA => impl_Disk_write.taken g vC vW _ _ _ _ _ _ w0 w hA hl' ho hl1) (by omega) (by simp; omega)
      · rename_i ho
        simp only [Prod.mk.injEq] at h1
        obtain ⟨rfl, rfl, rfl, rfl, rfl⟩ := h1
        exact impl_DiskWrite.good _ _ _ _ _ _ _ _ _ _ _ _ _ _ _ w hr0_0 hc0_0 hr0_1 hc0_1 hD (by omega) hl1 (fun g vC vW w0 w hA => (impl_Disk_write.refused g vC vW _ _ _ _ _ _ w0 w hA hl' (by simpa using ho)).mono fun e w' he => ⟨vW, he⟩) (by omega) (by omega)
  · rw [if_neg hk] at h
    simp only [Option.some.injEq, Prod.mk.injEq] at h
    obtain ⟨rfl, rfl, rfl, rfl, rfl⟩ := h
    have hD : impl_DiskOk.f l0_0 l0_1 a0_2 a0_3 = some false := congrArg some (by simpa using hk)
    exact (impl_DiskWrite.bad _ _ _ _ _ _ _ _ _ _ w hr0_0 hc0_0 hr0_1 hc0_1 hD).mono fun e w' he => ⟨_, _, he.1, Kd.R_nil _ _ _ _ _, Kd.R_nil _ _ _ _ _, he.2⟩

set_option maxHeartbeats 4000000 in
set_option maxRecDepth 100000 in
theorem impl_DiskSync.bad (A0_0 : Option Addr) (c0_0 : Nat) (l0_0 : List ByteArray) (A0_1 : Option Addr) (c0_1 : Nat) (l0_1 : List (S70)) (a0_2 : Int) (a0_3 : Int) (w : World) (hr0_0 : Kd.C Kd.string w A0_0 l0_0.length l0_0) (hc0_0 : l0_0.length ≤ c0_0) (hr0_1 : Kd.C k70 w A0_1 l0_1.length l0_1) (hc0_1 : l0_1.length ≤ c0_1) (h : impl_DiskOk.f l0_0 l0_1 a0_2 a0_3 = some false) :
    Calls Try.prog 20 #[.agg #[.slice A0_0 l0_0.length c0_0, .slice A0_1 l0_1.length c0_1, .int .i64 a0_2, .int .i64 a0_3]] w fun e w' => e = .returned (.agg #[.slice none 0 0, .slice none 0 0, .int .i64 0, .int .i64 0]) ∧ Below w.heap.size w w' := by
  have hu26 := Try.underlying26
  have HR0 := Aside0.mk hr0_0
  have HC0 := Aside0.mk hc0_0
  have HR1 := Aside0.mk hr0_1
  have HC1 := Aside0.mk hc0_1
  have HH := Aside0.mk h
  have HB := Aside0.mk (Below.refl w.heap.size w)
  clear hr0_0 hc0_0 hr0_1 hc0_1 h
  go_enter Try.func20, Try.ntmps20
  go_wp2_with (first | ((with_reducible refine zB (N := 1) rfl ?_); (try (refine xC (by rfl) ?_; dsimp only)); refine qZ ?hg (N := 1) ?hd (cs := #[.slice A0_0 l0_0.length c0_0, .slice A0_1 l0_1.length c0_1, .int .i64 a0_2, .int .i64 a0_3]) (t := 26) ?hr ?_; (case hd => rfl); (case hg => rfl); (case hr => first | (go_simp; done) | (go_simp; rfl)); intro gA hg w1 hbox hb; have BKgA := Aside0.mk hbox; have HB1 := Aside0.mk (qN HB.out hb); have GEgA := Aside0.mk (by rw [hg]; exact HB.out.size : w.heap.size ≤ gA); clear HB; have HB := HB1; clear HB1; clear hbox hg; have hzgA_0 : w1.cell? ⟨gA, 0, none⟩ = some (.slice A0_0 l0_0.length c0_0) := (qA BKgA.out 0).trans rfl; have hfgA_0 : w1.frozen? ⟨gA, 0, none⟩ = false := qD BKgA.out 0; have hzgA_1 : w1.cell? ⟨gA, 1, none⟩ = some (.slice A0_1 l0_1.length c0_1) := (qA BKgA.out 1).trans rfl; have hfgA_1 : w1.frozen? ⟨gA, 1, none⟩ = false := qD BKgA.out 1; have hzgA_2 : w1.cell? ⟨gA, 2, none⟩ = some (.int .i64 a0_2) := (qA BKgA.out 2).trans rfl; have hfgA_2 : w1.frozen? ⟨gA, 2, none⟩ = false := qD BKgA.out 2; have hzgA_3 : w1.cell? ⟨gA, 3, none⟩ = some (.int .i64 a0_3) := (qA BKgA.out 3).trans rfl; have hfgA_3 : w1.frozen? ⟨gA, 3, none⟩ = false := qD BKgA.out 3; clear hb) | ((with_reducible refine zB (N := 2) rfl ?_); (try (refine xC (by rfl) ?_; dsimp only)); refine qZ ?hg (N := 2) ?hd (cs := #[.slice none 0 0, .slice none 0 0, .int .i64 0, .int .i64 0]) (t := 26) ?hr ?_; (case hd => rfl); (case hg => rfl); (case hr => first | (go_simp; done) | (go_simp; rfl)); intro gR hg w2 hbox hb; have BK1 := Aside0.mk (qJ BKgA.out hb); have NEgA_gR := Aside0.mk (by rw [hg]; exact Nat.ne_of_lt (zE BKgA.out) : gA ≠ gR); clear BKgA; have BKgA := BK1; clear BK1; have BKgR := Aside0.mk hbox; have HB1 := Aside0.mk (qN HB.out hb); have GEgR := Aside0.mk (by rw [hg]; exact HB.out.size : w.heap.size ≤ gR); clear HB; have HB := HB1; clear HB1; clear hbox hg; clear hzgA_0 hfgA_0 hzgA_1 hfgA_1 hzgA_2 hfgA_2 hzgA_3 hfgA_3; have hzgA_0 : w2.cell? ⟨gA, 0, none⟩ = some (.slice A0_0 l0_0.length c0_0) := (qA BKgA.out 0).trans rfl; have hfgA_0 : w2.frozen? ⟨gA, 0, none⟩ = false := qD BKgA.out 0; have hzgA_1 : w2.cell? ⟨gA, 1, none⟩ = some (.slice A0_1 l0_1.length c0_1) := (qA BKgA.out 1).trans rfl; have hfgA_1 : w2.frozen? ⟨gA, 1, none⟩ = false := qD BKgA.out 1; have hzgA_2 : w2.cell? ⟨gA, 2, none⟩ = some (.int .i64 a0_2) := (qA BKgA.out 2).trans rfl; have hfgA_2 : w2.frozen? ⟨gA, 2, none⟩ = false := qD BKgA.out 2; have hzgA_3 : w2.cell? ⟨gA, 3, none⟩ = some (.int .i64 a0_3) := (qA BKgA.out 3).trans rfl; have hfgA_3 : w2.frozen? ⟨gA, 3, none⟩ = false := qD BKgA.out 3; have hzgR_0 : w2.cell? ⟨gR, 0, none⟩ = some (.slice none 0 0) := (qA BKgR.out 0).trans rfl; have hfgR_0 : w2.frozen? ⟨gR, 0, none⟩ = false := qD BKgR.out 0; have hzgR_1 : w2.cell? ⟨gR, 1, none⟩ = some (.slice none 0 0) := (qA BKgR.out 1).trans rfl; have hfgR_1 : w2.frozen? ⟨gR, 1, none⟩ = false := qD BKgR.out 1; have hzgR_2 : w2.cell? ⟨gR, 2, none⟩ = some (.int .i64 0) := (qA BKgR.out 2).trans rfl; have hfgR_2 : w2.frozen? ⟨gR, 2, none⟩ = false := qD BKgR.out 2; have hzgR_3 : w2.cell? ⟨gR, 3, none⟩ = some (.int .i64 0) := (qA BKgR.out 3).trans rfl; have hfgR_3 : w2.frozen? ⟨gR, 3, none⟩ = false := qD BKgR.out 3; clear hb) | (go_at_call 22; refine (impl_DiskOk.calls _ _ _ _ _ _ _ _ _ _ (Kd.zI HR0.out HB.out) HC0.out (Kd.zI HR1.out HB.out) HC1.out HH.out).mono ?_; rintro e w3 ⟨rfl, hb⟩; have HB1 := Aside0.mk (qN HB.out hb); clear HB; have HB := HB1; clear HB1; have BK1 := Aside0.mk (qJ BKgA.out hb); clear BKgA; have BKgA := BK1; clear BK1; clear hzgA_0 hfgA_0 hzgA_1 hfgA_1 hzgA_2 hfgA_2 hzgA_3 hfgA_3; have hzgA_0 : w3.cell? ⟨gA, 0, none⟩ = some (.slice A0_0 l0_0.length c0_0) := (qA BKgA.out 0).trans rfl; have hfgA_0 : w3.frozen? ⟨gA, 0, none⟩ = false := qD BKgA.out 0; have hzgA_1 : w3.cell? ⟨gA, 1, none⟩ = some (.slice A0_1 l0_1.length c0_1) := (qA BKgA.out 1).trans rfl; have hfgA_1 : w3.frozen? ⟨gA, 1, none⟩ = false := qD BKgA.out 1; have hzgA_2 : w3.cell? ⟨gA, 2, none⟩ = some (.int .i64 a0_2) := (qA BKgA.out 2).trans rfl; have hfgA_2 : w3.frozen? ⟨gA, 2, none⟩ = false := qD BKgA.out 2; have hzgA_3 : w3.cell? ⟨gA, 3, none⟩ = some (.int .i64 a0_3) := (qA BKgA.out 3).trans rfl; have hfgA_3 : w3.frozen? ⟨gA, 3, none⟩ = false := qD BKgA.out 3; have BK1 := Aside0.mk (qJ BKgR.out hb); clear BKgR; have BKgR := BK1; clear BK1; clear hzgR_0 hfgR_0 hzgR_1 hfgR_1 hzgR_2 hfgR_2 hzgR_3 hfgR_3; have hzgR_0 : w3.cell? ⟨gR, 0, none⟩ = some (.slice none 0 0) := (qA BKgR.out 0).trans rfl; have hfgR_0 : w3.frozen? ⟨gR, 0, none⟩ = false := qD BKgR.out 0; have hzgR_1 : w3.cell? ⟨gR, 1, none⟩ = some (.slice none 0 0) := (qA BKgR.out 1).trans rfl; have hfgR_1 : w3.frozen? ⟨gR, 1, none⟩ = false := qD BKgR.out 1; have hzgR_2 : w3.cell? ⟨gR, 2, none⟩ = some (.int .i64 0) := (qA BKgR.out 2).trans rfl; have hfgR_2 : w3.frozen? ⟨gR, 2, none⟩ = false := qD BKgR.out 2; have hzgR_3 : w3.cell? ⟨gR, 3, none⟩ = some (.int .i64 0) := (qA BKgR.out 3).trans rfl; have hfgR_3 : w3.frozen? ⟨gR, 3, none⟩ = false := qD BKgR.out 3; clear hb))
  refine bodyPost_ret (results_cell_row rfl _ _ gR 26 #[.slice none 0 0, .slice none 0 0, .int .i64 0, .int .i64 0] (0, 0) _ rfl ?_ hu26 rfl (by kernel_rfl)) rfl ?_
  · refine qP (cs := #[.slice none 0 0, .slice none 0 0, .int .i64 0, .int .i64 0]) ?_ 3 _ rfl; refine qP (cs := #[.slice none 0 0, .slice none 0 0, .int .i64 0, .int .i64 0]) ?_ 2 _ rfl; refine qP (cs := #[.slice none 0 0, .slice none 0 0, .int .i64 0, .int .i64 0]) ?_ 1 _ rfl; refine qP (cs := #[.slice none 0 0, .slice none 0 0, .int .i64 0, .int .i64 0]) ?_ 0 _ rfl; exact BKgR.out
  · exact ⟨rfl, qB (qB (qB (qB HB.out GEgR.out) GEgR.out) GEgR.out) GEgR.out⟩

set_option maxHeartbeats 8000000 in
set_option maxRecDepth 100000 in
theorem impl_DiskSync.good (A0_0 : Option Addr) (c0_0 : Nat) (l0_0 : List ByteArray) (A0_1 : Option Addr) (c0_1 : Nat) (l0_1 : List (S70)) (a0_2 : Int) (a0_3 : Int) (r1 : List ByteArray) (r2 : List S70) (r3 r4 : Int) (w : World) (hr0_0 : Kd.C Kd.string w A0_0 l0_0.length l0_0) (hc0_0 : l0_0.length ≤ c0_0) (hr0_1 : Kd.C k70 w A0_1 l0_1.length l0_1) (hc0_1 : l0_1.length ≤ c0_1) (h : impl_DiskOk.f l0_0 l0_1 a0_2 a0_3 = some true) (hs0 : l0_0.length < 1000) (hs1 : l0_1.length ≤ 100)
    (hW : ∀ (g : Nat) (vC vW : Value) (w0 w : World), DiskAt w0 w g vC vW l0_0 l0_1 a0_2 a0_3 → Calls Try.prog 44 #[.pointer (some ⟨g, 0, none⟩)] w fun e w' => ∃ vW', e = .returned (.tuple #[]) ∧ DiskAt w0 w' g vC vW' r1 r2 r3 r4) :
    Calls Try.prog 20 #[.agg #[.slice A0_0 l0_0.length c0_0, .slice A0_1 l0_1.length c0_1, .int .i64 a0_2, .int .i64 a0_3]] w fun e w' => ∃ v0_ v1_ : Value, e = .returned (.agg #[v0_, v1_, .int .i64 r3, .int .i64 r4]) ∧ Kd.R Kd.string 9 w' w.heap.size (fun _ => True) v0_ r1 ∧ Kd.R k70 70 w' w.heap.size (fun _ => True) v1_ r2 ∧ Below w.heap.size w w' := by
  have hu26 := Try.underlying26
  have HR0 := Aside0.mk hr0_0
  have HC0 := Aside0.mk hc0_0
  have HR1 := Aside0.mk hr0_1
  have HC1 := Aside0.mk hc0_1
  have HH := Aside0.mk h
  have HW := Aside0.mk hW
  have HB := Aside0.mk (Below.refl w.heap.size w)
  have F1 : Aside0 (impl_Disk_copyOf.f l0_0 l0_1 a0_2 a0_3 = some (l0_0, l0_1, a0_2, a0_3)) := ⟨copyOf_ok _ _ _ _ hs0 (by omega)⟩
  clear hr0_0 hc0_0 hr0_1 hc0_1 h hs0 hs1 hW
  go_enter Try.func20, Try.ntmps20
  go_wp2_with (first | ((with_reducible refine zB (N := 1) rfl ?_); (try (refine xC (by rfl) ?_; dsimp only)); refine qZ ?hg (N := 1) ?hd (cs := #[.slice A0_0 l0_0.length c0_0, .slice A0_1 l0_1.length c0_1, .int .i64 a0_2, .int .i64 a0_3]) (t := 26) ?hr ?_; (case hd => rfl); (case hg => rfl); (case hr => first | (go_simp; done) | (go_simp; rfl)); intro gA hg w1 hbox hb; have BKgA := Aside0.mk hbox; have HB1 := Aside0.mk (qN HB.out hb); have GEgA := Aside0.mk (by rw [hg]; exact HB.out.size : w.heap.size ≤ gA); clear HB; have HB := HB1; clear HB1; clear hbox hg; have hzgA_0 : w1.cell? ⟨gA, 0, none⟩ = some (.slice A0_0 l0_0.length c0_0) := (qA BKgA.out 0).trans rfl; have hfgA_0 : w1.frozen? ⟨gA, 0, none⟩ = false := qD BKgA.out 0; have hzgA_1 : w1.cell? ⟨gA, 1, none⟩ = some (.slice A0_1 l0_1.length c0_1) := (qA BKgA.out 1).trans rfl; have hfgA_1 : w1.frozen? ⟨gA, 1, none⟩ = false := qD BKgA.out 1; have hzgA_2 : w1.cell? ⟨gA, 2, none⟩ = some (.int .i64 a0_2) := (qA BKgA.out 2).trans rfl; have hfgA_2 : w1.frozen? ⟨gA, 2, none⟩ = false := qD BKgA.out 2; have hzgA_3 : w1.cell? ⟨gA, 3, none⟩ = some (.int .i64 a0_3) := (qA BKgA.out 3).trans rfl; have hfgA_3 : w1.frozen? ⟨gA, 3, none⟩ = false := qD BKgA.out 3; clear hb) | ((with_reducible refine zB (N := 2) rfl ?_); (try (refine xC (by rfl) ?_; dsimp only)); refine qZ ?hg (N := 2) ?hd (cs := #[.slice none 0 0, .slice none 0 0, .int .i64 0, .int .i64 0]) (t := 26) ?hr ?_; (case hd => rfl); (case hg => rfl); (case hr => first | (go_simp; done) | (go_simp; rfl)); intro gR hg w2 hbox hb; have BK1 := Aside0.mk (qJ BKgA.out hb); have NEgA_gR := Aside0.mk (by rw [hg]; exact Nat.ne_of_lt (zE BKgA.out) : gA ≠ gR); clear BKgA; have BKgA := BK1; clear BK1; have BKgR := Aside0.mk hbox; have HB1 := Aside0.mk (qN HB.out hb); have GEgR := Aside0.mk (by rw [hg]; exact HB.out.size : w.heap.size ≤ gR); clear HB; have HB := HB1; clear HB1; clear hbox hg; clear hzgA_0 hfgA_0 hzgA_1 hfgA_1 hzgA_2 hfgA_2 hzgA_3 hfgA_3; have hzgA_0 : w2.cell? ⟨gA, 0, none⟩ = some (.slice A0_0 l0_0.length c0_0) := (qA BKgA.out 0).trans rfl; have hfgA_0 : w2.frozen? ⟨gA, 0, none⟩ = false := qD BKgA.out 0; have hzgA_1 : w2.cell? ⟨gA, 1, none⟩ = some (.slice A0_1 l0_1.length c0_1) := (qA BKgA.out 1).trans rfl; have hfgA_1 : w2.frozen? ⟨gA, 1, none⟩ = false := qD BKgA.out 1; have hzgA_2 : w2.cell? ⟨gA, 2, none⟩ = some (.int .i64 a0_2) := (qA BKgA.out 2).trans rfl; have hfgA_2 : w2.frozen? ⟨gA, 2, none⟩ = false := qD BKgA.out 2; have hzgA_3 : w2.cell? ⟨gA, 3, none⟩ = some (.int .i64 a0_3) := (qA BKgA.out 3).trans rfl; have hfgA_3 : w2.frozen? ⟨gA, 3, none⟩ = false := qD BKgA.out 3; have hzgR_0 : w2.cell? ⟨gR, 0, none⟩ = some (.slice none 0 0) := (qA BKgR.out 0).trans rfl; have hfgR_0 : w2.frozen? ⟨gR, 0, none⟩ = false := qD BKgR.out 0; have hzgR_1 : w2.cell? ⟨gR, 1, none⟩ = some (.slice none 0 0) := (qA BKgR.out 1).trans rfl; have hfgR_1 : w2.frozen? ⟨gR, 1, none⟩ = false := qD BKgR.out 1; have hzgR_2 : w2.cell? ⟨gR, 2, none⟩ = some (.int .i64 0) := (qA BKgR.out 2).trans rfl; have hfgR_2 : w2.frozen? ⟨gR, 2, none⟩ = false := qD BKgR.out 2; have hzgR_3 : w2.cell? ⟨gR, 3, none⟩ = some (.int .i64 0) := (qA BKgR.out 3).trans rfl; have hfgR_3 : w2.frozen? ⟨gR, 3, none⟩ = false := qD BKgR.out 3; clear hb) | (go_at_call 22; refine (impl_DiskOk.calls _ _ _ _ _ _ _ _ _ _ (Kd.zI HR0.out HB.out) HC0.out (Kd.zI HR1.out HB.out) HC1.out HH.out).mono ?_; rintro e w3 ⟨rfl, hb⟩; have HB1 := Aside0.mk (qN HB.out hb); clear HB; have HB := HB1; clear HB1; have BK1 := Aside0.mk (qJ BKgA.out hb); clear BKgA; have BKgA := BK1; clear BK1; clear hzgA_0 hfgA_0 hzgA_1 hfgA_1 hzgA_2 hfgA_2 hzgA_3 hfgA_3; have hzgA_0 : w3.cell? ⟨gA, 0, none⟩ = some (.slice A0_0 l0_0.length c0_0) := (qA BKgA.out 0).trans rfl; have hfgA_0 : w3.frozen? ⟨gA, 0, none⟩ = false := qD BKgA.out 0; have hzgA_1 : w3.cell? ⟨gA, 1, none⟩ = some (.slice A0_1 l0_1.length c0_1) := (qA BKgA.out 1).trans rfl; have hfgA_1 : w3.frozen? ⟨gA, 1, none⟩ = false := qD BKgA.out 1; have hzgA_2 : w3.cell? ⟨gA, 2, none⟩ = some (.int .i64 a0_2) := (qA BKgA.out 2).trans rfl; have hfgA_2 : w3.frozen? ⟨gA, 2, none⟩ = false := qD BKgA.out 2; have hzgA_3 : w3.cell? ⟨gA, 3, none⟩ = some (.int .i64 a0_3) := (qA BKgA.out 3).trans rfl; have hfgA_3 : w3.frozen? ⟨gA, 3, none⟩ = false := qD BKgA.out 3; have BK1 := Aside0.mk (qJ BKgR.out hb); clear BKgR; have BKgR := BK1; clear BK1; clear hzgR_0 hfgR_0 hzgR_1 hfgR_1 hzgR_2 hfgR_2 hzgR_3 hfgR_3; have hzgR_0 : w3.cell? ⟨gR, 0, none⟩ = some (.slice none 0 0) := (qA BKgR.out 0).trans rfl; have hfgR_0 : w3.frozen? ⟨gR, 0, none⟩ = false := qD BKgR.out 0; have hzgR_1 : w3.cell? ⟨gR, 1, none⟩ = some (.slice none 0 0) := (qA BKgR.out 1).trans rfl; have hfgR_1 : w3.frozen? ⟨gR, 1, none⟩ = false := qD BKgR.out 1; have hzgR_2 : w3.cell? ⟨gR, 2, none⟩ = some (.int .i64 0) := (qA BKgR.out 2).trans rfl; have hfgR_2 : w3.frozen? ⟨gR, 2, none⟩ = false := qD BKgR.out 2; have hzgR_3 : w3.cell? ⟨gR, 3, none⟩ = some (.int .i64 0) := (qA BKgR.out 3).trans rfl; have hfgR_3 : w3.frozen? ⟨gR, 3, none⟩ = false := qD BKgR.out 3; clear hb) | (go_at_call 35; refine (impl_Disk_copyOf.calls _ _ _ _ _ _ _ _ _ _ _ _ _ (Kd.zI HR0.out HB.out) HC0.out (Kd.zI HR1.out HB.out) HC1.out F1.out).mono ?_; rintro e w4 ⟨vC, vW, rfl, hoC, hoW, hb⟩; have BR3 := BKgR; have HW3 := HB; have HB1 := Aside0.mk (qN HB.out hb); clear HB; have HB := HB1; clear HB1; have BK1 := Aside0.mk (qJ BKgA.out hb); clear BKgA; have BKgA := BK1; clear BK1; clear hzgA_0 hfgA_0 hzgA_1 hfgA_1 hzgA_2 hfgA_2 hzgA_3 hfgA_3; have hzgA_0 : w4.cell? ⟨gA, 0, none⟩ = some (.slice A0_0 l0_0.length c0_0) := (qA BKgA.out 0).trans rfl; have hfgA_0 : w4.frozen? ⟨gA, 0, none⟩ = false := qD BKgA.out 0; have hzgA_1 : w4.cell? ⟨gA, 1, none⟩ = some (.slice A0_1 l0_1.length c0_1) := (qA BKgA.out 1).trans rfl; have hfgA_1 : w4.frozen? ⟨gA, 1, none⟩ = false := qD BKgA.out 1; have hzgA_2 : w4.cell? ⟨gA, 2, none⟩ = some (.int .i64 a0_2) := (qA BKgA.out 2).trans rfl; have hfgA_2 : w4.frozen? ⟨gA, 2, none⟩ = false := qD BKgA.out 2; have hzgA_3 : w4.cell? ⟨gA, 3, none⟩ = some (.int .i64 a0_3) := (qA BKgA.out 3).trans rfl; have hfgA_3 : w4.frozen? ⟨gA, 3, none⟩ = false := qD BKgA.out 3; have BK1 := Aside0.mk (qJ BKgR.out hb); clear BKgR; have BKgR := BK1; clear BK1; clear hzgR_0 hfgR_0 hzgR_1 hfgR_1 hzgR_2 hfgR_2 hzgR_3 hfgR_3; have hzgR_0 : w4.cell? ⟨gR, 0, none⟩ = some (.slice none 0 0) := (qA BKgR.out 0).trans rfl; have hfgR_0 : w4.frozen? ⟨gR, 0, none⟩ = false := qD BKgR.out 0; have hzgR_1 : w4.cell? ⟨gR, 1, none⟩ = some (.slice none 0 0) := (qA BKgR.out 1).trans rfl; have hfgR_1 : w4.frozen? ⟨gR, 1, none⟩ = false := qD BKgR.out 1; have hzgR_2 : w4.cell? ⟨gR, 2, none⟩ = some (.int .i64 0) := (qA BKgR.out 2).trans rfl; have hfgR_2 : w4.frozen? ⟨gR, 2, none⟩ = false := qD BKgR.out 2; have hzgR_3 : w4.cell? ⟨gR, 3, none⟩ = some (.int .i64 0) := (qA BKgR.out 3).trans rfl; have hfgR_3 : w4.frozen? ⟨gR, 3, none⟩ = false := qD BKgR.out 3; obtain ⟨AC, cC, eC⟩ := Kd.zG hoC; subst eC; obtain ⟨AW, cW, eW⟩ := Kd.zG hoW; subst eW; have HOC := Aside0.mk hoC; have HOW := Aside0.mk hoW; have HB3 := Aside0.mk hb; clear hb hoC hoW) | ((with_reducible refine zB (N := 3) rfl ?_); (try (refine xC (by rfl) ?_; dsimp only)); refine qZ ?hg (N := 3) ?hd (cs := #[.slice none 0 0, .slice none 0 0, .int .i64 0, .int .i64 0]) (t := 26) ?hr ?_; (case hd => rfl); (case hg => rfl); (case hr => first | (go_simp; done) | (go_simp; rfl)); intro gO hg w5 hbox hb; have BK1 := Aside0.mk (qJ BKgA.out hb); have NEgA_gO := Aside0.mk (by rw [hg]; exact Nat.ne_of_lt (zE BKgA.out) : gA ≠ gO); clear BKgA; have BKgA := BK1; clear BK1; have BK1 := Aside0.mk (qJ BKgR.out hb); have NEgR_gO := Aside0.mk (by rw [hg]; exact Nat.ne_of_lt (zE BKgR.out) : gR ≠ gO); clear BKgR; have BKgR := BK1; clear BK1; have BKgO := Aside0.mk hbox; have HB1 := Aside0.mk (qN HB.out hb); have GEgO := Aside0.mk (by rw [hg]; exact HB.out.size : w.heap.size ≤ gO); have GO := Aside0.mk (by rw [hg]; exact HB3.out.size : w3.heap.size ≤ gO); clear HB; have HB := HB1; clear HB1; clear hbox hg; clear hzgA_0 hfgA_0 hzgA_1 hfgA_1 hzgA_2 hfgA_2 hzgA_3 hfgA_3; have hzgA_0 : w5.cell? ⟨gA, 0, none⟩ = some (.slice A0_0 l0_0.length c0_0) := (qA BKgA.out 0).trans rfl; have hfgA_0 : w5.frozen? ⟨gA, 0, none⟩ = false := qD BKgA.out 0; have hzgA_1 : w5.cell? ⟨gA, 1, none⟩ = some (.slice A0_1 l0_1.length c0_1) := (qA BKgA.out 1).trans rfl; have hfgA_1 : w5.frozen? ⟨gA, 1, none⟩ = false := qD BKgA.out 1; have hzgA_2 : w5.cell? ⟨gA, 2, none⟩ = some (.int .i64 a0_2) := (qA BKgA.out 2).trans rfl; have hfgA_2 : w5.frozen? ⟨gA, 2, none⟩ = false := qD BKgA.out 2; have hzgA_3 : w5.cell? ⟨gA, 3, none⟩ = some (.int .i64 a0_3) := (qA BKgA.out 3).trans rfl; have hfgA_3 : w5.frozen? ⟨gA, 3, none⟩ = false := qD BKgA.out 3; clear hzgR_0 hfgR_0 hzgR_1 hfgR_1 hzgR_2 hfgR_2 hzgR_3 hfgR_3; have hzgR_0 : w5.cell? ⟨gR, 0, none⟩ = some (.slice none 0 0) := (qA BKgR.out 0).trans rfl; have hfgR_0 : w5.frozen? ⟨gR, 0, none⟩ = false := qD BKgR.out 0; have hzgR_1 : w5.cell? ⟨gR, 1, none⟩ = some (.slice none 0 0) := (qA BKgR.out 1).trans rfl; have hfgR_1 : w5.frozen? ⟨gR, 1, none⟩ = false := qD BKgR.out 1; have hzgR_2 : w5.cell? ⟨gR, 2, none⟩ = some (.int .i64 0) := (qA BKgR.out 2).trans rfl; have hfgR_2 : w5.frozen? ⟨gR, 2, none⟩ = false := qD BKgR.out 2; have hzgR_3 : w5.cell? ⟨gR, 3, none⟩ = some (.int .i64 0) := (qA BKgR.out 3).trans rfl; have hfgR_3 : w5.frozen? ⟨gR, 3, none⟩ = false := qD BKgR.out 3; have hzgO_0 : w5.cell? ⟨gO, 0, none⟩ = some (.slice none 0 0) := (qA BKgO.out 0).trans rfl; have hfgO_0 : w5.frozen? ⟨gO, 0, none⟩ = false := qD BKgO.out 0; have hzgO_1 : w5.cell? ⟨gO, 1, none⟩ = some (.slice none 0 0) := (qA BKgO.out 1).trans rfl; have hfgO_1 : w5.frozen? ⟨gO, 1, none⟩ = false := qD BKgO.out 1; have hzgO_2 : w5.cell? ⟨gO, 2, none⟩ = some (.int .i64 0) := (qA BKgO.out 2).trans rfl; have hfgO_2 : w5.frozen? ⟨gO, 2, none⟩ = false := qD BKgO.out 2; have hzgO_3 : w5.cell? ⟨gO, 3, none⟩ = some (.int .i64 0) := (qA BKgO.out 3).trans rfl; have hfgO_3 : w5.frozen? ⟨gO, 3, none⟩ = false := qD BKgO.out 3; have HOC1 := Aside0.mk (Kd.qU HOC.out hb); have HOW1 := Aside0.mk (Kd.qU HOW.out hb); have HB4 := Aside0.mk (xG HB3.out HB3.out.size hb); clear hb) | (go_at_call 44; refine (HW.out gO _ _ w3 _ (diskAt_made GO.out BKgO.out HOC1.out HOW1.out HB4.out)).mono ?_; rintro e w6 ⟨vW', rfl, hD⟩; obtain ⟨A1, c1, e1, hle1, hC1⟩ := Kd.R_reads hD.2.2.1; obtain ⟨A2, c2, e2, hle2, hC2⟩ := Kd.R_reads hD.2.2.2.1; subst e2; rw [e1] at hD; have BKgO1 := Aside0.mk hD.2.1; have HB1 := Aside0.mk (xG HW3.out HW3.out.size hD.2.2.2.2); have BK1 := Aside0.mk (qJ BR3.out hD.2.2.2.2); clear HB BKgO BKgR; have HB := HB1; have BKgO := BKgO1; have BKgR := BK1; have HO3 := Aside0.mk (Kd.zJ hD.2.2.1 HW3.out.size); have HO4 := Aside0.mk (Kd.zJ hD.2.2.2.1 HW3.out.size); clear HB1 BKgO1 BK1 hD e1 hC1 hC2 hle1 hle2; clear hzgA_0 hfgA_0 hzgA_1 hfgA_1 hzgA_2 hfgA_2 hzgA_3 hfgA_3; clear hzgR_0 hfgR_0 hzgR_1 hfgR_1 hzgR_2 hfgR_2 hzgR_3 hfgR_3; clear hzgO_0 hfgO_0 hzgO_1 hfgO_1 hzgO_2 hfgO_2 hzgO_3 hfgO_3; have hzgR_0 : w6.cell? ⟨gR, 0, none⟩ = some (.slice none 0 0) := (qA BKgR.out 0).trans rfl; have hfgR_0 : w6.frozen? ⟨gR, 0, none⟩ = false := qD BKgR.out 0; have hzgR_1 : w6.cell? ⟨gR, 1, none⟩ = some (.slice none 0 0) := (qA BKgR.out 1).trans rfl; have hfgR_1 : w6.frozen? ⟨gR, 1, none⟩ = false := qD BKgR.out 1; have hzgR_2 : w6.cell? ⟨gR, 2, none⟩ = some (.int .i64 0) := (qA BKgR.out 2).trans rfl; have hfgR_2 : w6.frozen? ⟨gR, 2, none⟩ = false := qD BKgR.out 2; have hzgR_3 : w6.cell? ⟨gR, 3, none⟩ = some (.int .i64 0) := (qA BKgR.out 3).trans rfl; have hfgR_3 : w6.frozen? ⟨gR, 3, none⟩ = false := qD BKgR.out 3; have hzgO_0 : w6.cell? ⟨gO, 0, none⟩ = some (.slice A1 r1.length c1) := (qA BKgO.out 0).trans rfl; have hfgO_0 : w6.frozen? ⟨gO, 0, none⟩ = false := qD BKgO.out 0; have hzgO_1 : w6.cell? ⟨gO, 1, none⟩ = some (.slice A2 r2.length c2) := (qA BKgO.out 1).trans rfl; have hfgO_1 : w6.frozen? ⟨gO, 1, none⟩ = false := qD BKgO.out 1; have hzgO_2 : w6.cell? ⟨gO, 2, none⟩ = some (.int .i64 r3) := (qA BKgO.out 2).trans rfl; have hfgO_2 : w6.frozen? ⟨gO, 2, none⟩ = false := qD BKgO.out 2; have hzgO_3 : w6.cell? ⟨gO, 3, none⟩ = some (.int .i64 r4) := (qA BKgO.out 3).trans rfl; have hfgO_3 : w6.frozen? ⟨gO, 3, none⟩ = false := qD BKgO.out 3))
  refine bodyPost_ret (results_cell_row rfl _ _ gR 26 #[.slice A1 r1.length c1, .slice A2 r2.length c2, .int .i64 r3, .int .i64 r4] (0, 0) _ rfl ?_ hu26 rfl (by kernel_rfl)) rfl ?_
  · refine qP (cs := #[.slice A1 r1.length c1, .slice A2 r2.length c2, .int .i64 r3, .int .i64 0]) ?_ 3 _ rfl; refine qP (cs := #[.slice A1 r1.length c1, .slice A2 r2.length c2, .int .i64 0, .int .i64 0]) ?_ 2 _ rfl; refine qP (cs := #[.slice A1 r1.length c1, .slice none 0 0, .int .i64 0, .int .i64 0]) ?_ 1 _ rfl; refine qP (cs := #[.slice none 0 0, .slice none 0 0, .int .i64 0, .int .i64 0]) ?_ 0 _ rfl; exact BKgR.out
  · have B1 := qP (cs := #[.slice none 0 0, .slice none 0 0, .int .i64 0, .int .i64 0]) BKgR.out 0 (.slice A1 r1.length c1) rfl
    have B2 := qP (cs := #[.slice A1 r1.length c1, .slice none 0 0, .int .i64 0, .int .i64 0]) B1 1 (.slice A2 r2.length c2) rfl
    have B3 := qP (cs := #[.slice A1 r1.length c1, .slice A2 r2.length c2, .int .i64 0, .int .i64 0]) B2 2 (.int .i64 r3) rfl
    exact ⟨_, _, rfl, Kd.R_set (Kd.R_set (Kd.R_set (Kd.R_set HO3.out BKgR.out (by decide) _ _) B1 (by decide) _ _) B2 (by decide) _ _) B3 (by decide) _ _, Kd.R_set (Kd.R_set (Kd.R_set (Kd.R_set HO4.out BKgR.out (by decide) _ _) B1 (by decide) _ _) B2 (by decide) _ _) B3 (by decide) _ _, qB (qB (qB (qB HB.out GEgR.out) GEgR.out) GEgR.out) GEgR.out⟩
def syncD (cells : List ByteArray) (waits : List S70) (room left : Int) : List ByteArray × List S70 × Int × Int :=
  if (left == 0) = true then (cells, waits, room, left) else (applyW cells waits, [], room, lessP left)
theorem diskOk_at {l0 : List ByteArray} {l1 : List S70} {a b : Int} (h : impl_DiskOk.ok l0 l1 a b = true) : ∀ i, i < l1.length → 0 ≤ (rd_T70 l1 i).f0 ∧ (rd_T70 l1 i).f0 < l0.length := by
  intro i hi
  unfold impl_DiskOk.ok impl_DiskOk.W.any at h
  simp only [Bool.and_eq_true, decide_eq_true_eq, Bool.not_eq_true', List.any_eq_false] at h
  have hm := h.2.2.2.1 (rd_T70 l1 i) (by simp [rd_T70, List.getD_eq_getElem?_getD, List.getElem?_eq_getElem hi])
  simp [impl_DiskOk.W.p] at hm
  omega
def impl_DiskSync.f (l0_0 : List ByteArray) (l0_1 : List (S70)) (a0_2 : Int) (a0_3 : Int) : Option (List ByteArray × (List (S70)) × Int × Int) :=
  if impl_DiskOk.ok l0_0 l0_1 a0_2 a0_3 = true then some (syncD l0_0 l0_1 a0_2 a0_3) else some ([], [], 0, 0)
theorem impl_DiskSync.calls (A0_0 : Option Addr) (c0_0 : Nat) (l0_0 : List ByteArray) (A0_1 : Option Addr) (c0_1 : Nat) (l0_1 : List (S70)) (a0_2 : Int) (a0_3 : Int) (r1 : List ByteArray) (r2 : List S70) (r3 r4 : Int) (w : World) (hr0_0 : Kd.C Kd.string w A0_0 l0_0.length l0_0) (hc0_0 : l0_0.length ≤ c0_0) (hr0_1 : Kd.C k70 w A0_1 l0_1.length l0_1) (hc0_1 : l0_1.length ≤ c0_1) (h : impl_DiskSync.f l0_0 l0_1 a0_2 a0_3 = some (r1, r2, r3, r4)) :
    Calls Try.prog 20 #[.agg #[.slice A0_0 l0_0.length c0_0, .slice A0_1 l0_1.length c0_1, .int .i64 a0_2, .int .i64 a0_3]] w fun e w' => ∃ v0_ v1_ : Value, e = .returned (.agg #[v0_, v1_, .int .i64 r3, .int .i64 r4]) ∧ Kd.R Kd.string 9 w' w.heap.size (fun _ => True) v0_ r1 ∧ Kd.R k70 70 w' w.heap.size (fun _ => True) v1_ r2 ∧ Below w.heap.size w w' := by
  unfold impl_DiskSync.f at h
  by_cases hk : impl_DiskOk.ok l0_0 l0_1 a0_2 a0_3 = true
  · rw [if_pos hk] at h
    obtain ⟨hl0, hl1⟩ := diskOk_lengths hk
    have hD : impl_DiskOk.f l0_0 l0_1 a0_2 a0_3 = some true := congrArg some hk
    have h1 := Option.some.inj h
    unfold syncD at h1
    split at h1
    · rename_i hl
      simp only [Prod.mk.injEq] at h1
      obtain ⟨rfl, rfl, rfl, rfl⟩ := h1
      obtain rfl : a0_3 = 0 := by simpa using hl
      exact impl_DiskSync.good _ _ _ _ _ _ _ _ _ _ _ _ w hr0_0 hc0_0 hr0_1 hc0_1 hD (by omega) hl1 (fun g vC vW w0 w hA => (impl_Disk_sync.stopped g vC vW _ _ _ w0 w hA).mono fun e w' he => ⟨vW, he⟩)
    · rename_i hl
      have hl' : (a0_3 == 0) = false := by simpa using hl
      simp only [Prod.mk.injEq] at h1
      obtain ⟨rfl, rfl, rfl, rfl⟩ := h1
      exact impl_DiskSync.good _ _ _ _ _ _ _ _ _ _ _ _ w hr0_0 hc0_0 hr0_1 hc0_1 hD (by omega) hl1 (fun g vC vW w0 w hA => (impl_Disk_sync.done g vC vW _ _ _ _ w0 w hA hl' (diskOk_at hk)).mono fun e w' he => ⟨_, he⟩)
  · rw [if_neg hk] at h
    simp only [Option.some.injEq, Prod.mk.injEq] at h
    obtain ⟨rfl, rfl, rfl, rfl⟩ := h
    have hD : impl_DiskOk.f l0_0 l0_1 a0_2 a0_3 = some false := congrArg some (by simpa using hk)
    exact (impl_DiskSync.bad _ _ _ _ _ _ _ _ w hr0_0 hc0_0 hr0_1 hc0_1 hD).mono fun e w' he => ⟨_, _, he.1, Kd.R_nil _ _ _ _ _, Kd.R_nil _ _ _ _ _, he.2⟩


/-! ### impl_DiskSync: function 20 (a contract of this session's) -/
-- its contract stands with DiskWrite's


end Go.Proofs.Ytepihebkdnmppaa.Ak
