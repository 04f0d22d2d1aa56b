/- Walks of rows, part 4: the program's RowPut (a loop that writes to a builder; in the kit's own words). -/
import Derived.Test.YtneapbfomhalpaaGreatDoorQYD
import Derived.Test.YtneapbfomhalpaaGreatDoorQVU
import Derived.Test.YtneapbfomhalpaaGreatDoorQVX
import Derived.Test.YtneapbfomhalpaaGreatDoorQW1
set_option linter.unusedVariables false
set_option linter.unusedSimpArgs false
set_option maxRecDepth 100000
set_option maxHeartbeats 4000000
namespace Go.Proofs.YtneapbfomhalpaaGreatDoor.T
open Go Go.Pv Go.Proofs.YtneapbfomhalpaaGreatDoor.EF
section
open Go.Shelf Go.RowKit
attribute [local go_sem] Oper.semAt_some Instr.makeFunc Op.unary
theorem rowput_raw (A : Addr) (c n : Nat) (vt : Value) (pt rk : Nat → ByteArray) (kd sc dy mo ds : Nat → Int) (ys ng : Nat → Bool) (lp : Nat → Option Addr) (ll lc : Nat → Nat) (tx : Nat → ByteArray) (w : World) (hr0 : rk 0 = ByteArray.empty) (hrk : ∀ k, rk (k + 1) = rk k ++ (pt k ++ (⟨#[10]⟩ : ByteArray))) (h0 : 0 < n) (h4 : n ≤ 4) (hA : A.block < w.heap.size)
    (c0 : ∀ i, i < n → w.cell? ((A.add (i * 9)).add 0) = some (.int .i64 (kd i)))
    (c1 : ∀ i, i < n → w.cell? ((A.add (i * 9)).add 1) = some (.bool (ys i)))
    (c2 : ∀ i, i < n → w.cell? ((A.add (i * 9)).add 2) = some (.bool (ng i)))
    (c3 : ∀ i, i < n → w.cell? ((A.add (i * 9)).add 3) = some (.slice (lp i) (ll i) (lc i)))
    (c4 : ∀ i, i < n → w.cell? ((A.add (i * 9)).add 4) = some (.int .i64 (sc i)))
    (c5 : ∀ i, i < n → w.cell? ((A.add (i * 9)).add 5) = some (.int .i64 (dy i)))
    (c6 : ∀ i, i < n → w.cell? ((A.add (i * 9)).add 6) = some (.int .i64 (mo i)))
    (c7 : ∀ i, i < n → w.cell? ((A.add (i * 9)).add 7) = some (.int .i64 (ds i)))
    (c8 : ∀ i, i < n → w.cell? ((A.add (i * 9)).add 8) = some (.string (tx i)))
    (hO : ∀ w1, Below w.heap.size w w1 → Calls Tryz.prog 30 #[vt, .slice (some A) n c] w1 fun e w' => e = .returned (.bool true) ∧ Below w1.heap.size w1 w')
    (hP : ∀ i w1, i < n → Below w.heap.size w w1 → Calls Tryz.prog 24 #[.agg #[.int .i64 (kd i), .bool (ys i), .bool (ng i), .slice (lp i) (ll i) (lc i), .int .i64 (sc i), .int .i64 (dy i), .int .i64 (mo i), .int .i64 (ds i), .string (tx i)]] w1 fun e w' => e = .returned (.string (pt i)) ∧ Below w1.heap.size w1 w')
    (hz : ∀ i, i < n → (pt i).size ≤ 3000000) (hz2 : ∀ i, i ≤ n → (rk i).size ≤ 3000001 * i) :
    Calls Tryz.prog 15 #[vt, .slice (some A) n c] w fun e w' => e = .returned (.string (rk n)) ∧ Below w.heap.size w w' := by
  refine (callsIn_wide (n := 3)).1 ?_
  refine callsIn_of_wp Tryz.func15 rfl trivial ?_ rfl
  simp only [show Tryz.f15.ntmps = 24 from rfl, List.size_toArray, List.length_cons, List.length_nil, Nat.reduceAdd, Nat.reduceSub, Array.replicate_succ, Array.replicate_zero, List.push_toArray, List.append_toArray, List.nil_append, List.cons_append]
  gi_wp2
  refine ⟨trivial, ?_⟩
  refine (callsInW (hO w (Below.refl _ _))).mono ?_
  rintro e w1 ⟨rfl, hb1⟩
  have bB := Lib.IsBuilderF.of (Lib.fresh_isBuilder 70 5 w1)
  have hs1 : (w1.alloc (.cells #[.pointer none, .slice none 0 0] 70)).heap.size = w1.heap.size + 1 := World.size_alloc ..
  have hB1 : Below w.heap.size w (w1.alloc (.cells #[.pointer none, .slice none 0 0] 70)) := hb1.alloc hb1.size _
  gi_wp2
  gi_loopw [14] (fun i wr => ∃ k : Nat, k ≤ n ∧ i = .int .i64 (k : Int) ∧ Lib.IsBuilderF 70 5 w1.heap.size w1.heap.size (Lib.byteCells (rk k).data.toList) wr ∧ Below w.heap.size w wr)
    (fun i _ => n - (intOf i).toNat)
  case atStart => exact ⟨0, Nat.zero_le _, rfl, by rw [hr0]; exact bB, hB1⟩
  case round =>
    obtain ⟨k, hk, rfl, hBd, hBl⟩ := hrel
    by_cases hlt : k < n
    · have hcx : ∀ j u, w.cell? ((A.add (k * 9)).add j) = some u → wr.cell? ((A.add (k * 9)).add j) = some u := fun j u hu => (hBl.cell (p := (A.add (k * 9)).add j) (by cases A; simp only [Addr.add]; (repeat' split) <;> exact hA)).trans hu
      have p0 : (0 ≤ (k : Int)) = True := eq_true (by omega)
      have p1 : ((k : Int) < (n : Int)) = True := eq_true (by omega)
      have z0 : wr.cell? (A.add (k * 9)) = some (.int .i64 (kd k)) := hcx 0 _ (c0 k hlt)
      have z1 : wr.cell? { block := (A.add (k * 9)).block, off := (A.add (k * 9)).off + 1 } = some (.bool (ys k)) := hcx 1 _ (c1 k hlt)
      have z2 : wr.cell? { block := (A.add (k * 9)).block, off := (A.add (k * 9)).off + 2 } = some (.bool (ng k)) := hcx 2 _ (c2 k hlt)
      have z3 : wr.cell? { block := (A.add (k * 9)).block, off := (A.add (k * 9)).off + 3 } = some (.slice (lp k) (ll k) (lc k)) := hcx 3 _ (c3 k hlt)
      have z4 : wr.cell? { block := (A.add (k * 9)).block, off := (A.add (k * 9)).off + 4 } = some (.int .i64 (sc k)) := hcx 4 _ (c4 k hlt)
      have z5 : wr.cell? { block := (A.add (k * 9)).block, off := (A.add (k * 9)).off + 5 } = some (.int .i64 (dy k)) := hcx 5 _ (c5 k hlt)
      have z6 : wr.cell? { block := (A.add (k * 9)).block, off := (A.add (k * 9)).off + 6 } = some (.int .i64 (mo k)) := hcx 6 _ (c6 k hlt)
      have z7 : wr.cell? { block := (A.add (k * 9)).block, off := (A.add (k * 9)).off + 7 } = some (.int .i64 (ds k)) := hcx 7 _ (c7 k hlt)
      have z8 : wr.cell? { block := (A.add (k * 9)).block, off := (A.add (k * 9)).off + 8 } = some (.string (tx k)) := hcx 8 _ (c8 k hlt)
      clear hcx
      have hzk := hz k hlt
      have hzr := hz2 k hk
      gi_wp2
      refine ⟨trivial, ?_⟩
      refine (callsInW (hP k _ hlt (hBl.alloc hBl.size _))).mono ?_
      rintro e W2 ⟨rfl, hb2⟩
      have hBd2 := builder_below (hBd.alloc _) hb2
      have hs2 := hb2.size
      rw [World.size_alloc] at hs2
      have hBl2 := (hBl.alloc hBl.size (.cells #[.int .i64 (kd k), .bool (ys k), .bool (ng k), .slice (lp k) (ll k) (lc k), .int .i64 (sc k), .int .i64 (dy k), .int .i64 (mo k), .int .i64 (ds k), .string (tx k)] 38)).trans (hb2.mono (by rw [World.size_alloc]; have := hBl.size; omega))
      have hbs : w1.heap.size ≤ W2.heap.size := by have := hBd2; rcases this with ⟨_, v, hv, _⟩ | ⟨_, v, hv, _⟩ <;> exact Nat.le_of_lt (Array.getElem?_eq_some_iff.1 hv).1
      have h10 : (⟨#[10]⟩ : ByteArray).size = 1 := rfl
      have hlen : (Lib.byteCells (rk k).data.toList).length + (pt k ++ (⟨#[10]⟩ : ByteArray)).size ≤ 140737488355328 := by
        rw [Lib.byteCells_length, ByteArray.size_append, h10]
        have e1 : (rk k).data.toList.length = (rk k).size := rfl
        rw [e1]
        have : 3000001 * k ≤ 3000001 * 4 := Nat.mul_le_mul_left _ (by omega)
        omega
      have hW := wstr w1.heap.size w1.heap.size _ (pt k ++ ⟨#[10]⟩) W2 hBd2 hlen hbs
      clear hlen
      gi_wp2
      refine ⟨trivial, ?_⟩
      refine (callsInW hW).mono ?_
      rintro e W3 ⟨rfl, hAt, hb3, ho3⟩
      gi_wp2
      go_roundw
      case rel => exact ⟨k + 1, by omega, by simp, .inr (by rw [hrk, bytes_app]; exact hAt), hBl2.trans (hb3.mono hb1.size)⟩
      case measure => simp [intOf]; omega
    · obtain rfl : k = n := by omega
      gi_wp2
      refine ⟨trivial, ?_⟩
      refine (callsInW (Tryz.Builder_String_any_k w1.heap.size w1.heap.size (rk k).data.toList wr hBd (Nat.le_of_lt (by rcases hBd with ⟨_, v, hv, _⟩ | ⟨_, v, hv, _⟩ <;> exact (Array.getElem?_eq_some_iff.1 hv).1)))).mono ?_
      rintro e W3 ⟨rfl, hBd3, hb3, ho3⟩
      gi_wp2
      go_ret
      exact ⟨rfl, hBl.trans (hb3.mono hb1.size)⟩
theorem RV.agg_get {P : Program} {φ : Phi} {D : Nat → Prop} {w : World} {xs : List PV} {v : Value} (h : RV P φ D w (.agg xs) v) : ∃ us : Array Value, v = .agg us ∧ us.size = xs.length := by
  cases h with
  | agg hl h => exact ⟨_, rfl, by omega⟩
theorem RV.ints {P : Program} {φ : Phi} {D : Nat → Prop} {w : World} {n : Nat} {xs : List PV} {v : Value} (h : RV P φ D w (.val n xs) v) : ∃ (p : Option Addr) (c : Nat), v = .slice p n c := by
  cases h with
  | val hn' hd hc h => exact ⟨_, _, rfl⟩
  | val0 => exact ⟨_, _, rfl⟩
theorem flat_at {α : Type} {g : α → List PV} {l : List α} {k j q : Nat} (hq : ∀ x, (g x).length = q) (hk : k < l.length) (hj : j < q) : (l.flatMap g)[k * q + j]? = (g l[k])[j]? := by
  have h := take_flat (l := l) hq hk
  rw [← h, List.getElem?_take, if_pos hj, List.getElem?_drop]
theorem rowput_in (ts : List Ty) (vs : List Vl) (hts : ts.length ≤ 2000000) (hvs : VsIn vs) (hok : okRow ts vs = true) : Ok Tryz.prog 15 [vTys ts, vVls vs] (vS (rowT vs)) [] := by
  intro D w us hD hg ha
  obtain ⟨h4, hall⟩ := okRow_all hok
  have h0 : 0 < vs.length := by
    have h := of_decide_eq_true hok
    have h1 := h.1
    unfold okTys at h1
    rw [Bool.and_eq_true] at h1
    have := of_decide_eq_true h1.2
    have := h.2.1
    omega
  obtain ⟨hsz, hv⟩ := ha
  have g0 := hv 0 (vTys ts) rfl
  have g1 := hv 1 (vVls vs) rfl
  obtain ⟨v0, v1, rfl⟩ : ∃ v0 v1, us = #[v0, v1] := by
    rcases us with ⟨_ | ⟨a, _ | ⟨b, _ | ⟨c, l⟩⟩⟩⟩ <;> simp at hsz
    exact ⟨a, b, rfl⟩
  simp at g0 g1
  have hO := fun w1 hb => Ok.at_below (w1 := w1) (vs := #[v0, v1]) (RowOk_ok ts vs hts hvs) hD hg hb ⟨rfl, fun j x hj => by
    rcases j with _ | _ | j
    · simp at hj; subst hj; exact g0
    · simp at hj; subst hj; exact g1
    · simp at hj⟩
  rw [hok] at hO
  obtain ⟨a, c, f, rfl, hd, hc, hx⟩ := RV.val_inv g1 h0
  have hgv : ∀ i j p, i < vs.length → j < 9 → (cVl (vs.getD i vl0))[j]? = some p → w.cell? ((a.add (i * 9)).add j) = some (f (i * 9 + j)) ∧ RV Tryz.prog noPhi D w p (f (i * 9 + j)) := fun i j p hi hj hp => by
    have he : (vs.flatMap cVl)[i * 9 + j]? = some p := by rw [flat_at (g := cVl) (q := 9) (fun _ => rfl) hi hj, getV_of_lt hi]; exact hp
    refine ⟨?_, hx _ _ he⟩
    have := hc _ _ he
    rwa [show (a.add (i * 9)).add j = a.add (i * 9 + j) from add_add ..]
  have hi : ∀ i j n, i < vs.length → j < 9 → (cVl (vs.getD i vl0))[j]? = some (vI n) → w.cell? ((a.add (i * 9)).add j) = some (.int .i64 n) := fun i j n h1 h2 h3 => by
    obtain ⟨k1, k2⟩ := hgv i j _ h1 h2 h3
    generalize f (i * 9 + j) = y at k1 k2
    cases k2
    exact k1
  have hbl : ∀ i j n, i < vs.length → j < 9 → (cVl (vs.getD i vl0))[j]? = some (.b (.bool n)) → w.cell? ((a.add (i * 9)).add j) = some (.bool n) := fun i j n h1 h2 h3 => by
    obtain ⟨k1, k2⟩ := hgv i j _ h1 h2 h3
    generalize f (i * 9 + j) = y at k1 k2
    cases k2
    exact k1
  have hst : ∀ i j n, i < vs.length → j < 9 → (cVl (vs.getD i vl0))[j]? = some (vS n) → w.cell? ((a.add (i * 9)).add j) = some (.string n) := fun i j n h1 h2 h3 => by
    obtain ⟨k1, k2⟩ := hgv i j _ h1 h2 h3
    generalize f (i * 9 + j) = y at k1 k2
    cases k2
    exact k1
  have hsl : ∀ i, ∃ (p : Option Addr) (q : Nat), i < vs.length → w.cell? ((a.add (i * 9)).add 3) = some (.slice p (vs.getD i vl0).num.limbs.length q) ∧ RV Tryz.prog noPhi D w (.val (vs.getD i vl0).num.limbs.length ((vs.getD i vl0).num.limbs.map vI)) (.slice p (vs.getD i vl0).num.limbs.length q) := fun i => by
    by_cases h1 : i < vs.length
    · obtain ⟨k1, k2⟩ := hgv i 3 _ h1 (by decide) rfl
      obtain ⟨p, q, e⟩ := RV.ints k2
      rw [e] at k1 k2
      exact ⟨p, q, fun _ => ⟨k1, k2⟩⟩
    · exact ⟨none, 0, fun h => absurd h h1⟩
  obtain ⟨lp, hsl⟩ := Classical.axiomOfChoice hsl
  obtain ⟨lc, hsl⟩ := Classical.axiomOfChoice hsl
  refine (rowput_raw a c vs.length v0 (fun i => putV (vs.getD i vl0)) (rowK vs) (fun i => (vs.getD i vl0).kind) (fun i => (vs.getD i vl0).num.scale) (fun i => (vs.getD i vl0).day) (fun i => (vs.getD i vl0).months) (fun i => (vs.getD i vl0).days) (fun i => (vs.getD i vl0).yes) (fun i => (vs.getD i vl0).num.neg) lp (fun i => (vs.getD i vl0).num.limbs.length) lc (fun i => (vs.getD i vl0).text) w
    rfl (fun k => rfl) h0 h4 (hD _ hd) (fun i h => hi i 0 _ h (by decide) rfl) (fun i h => hbl i 1 _ h (by decide) rfl) (fun i h => hbl i 2 _ h (by decide) rfl) (fun i h => (hsl i h).1) (fun i h => hi i 4 _ h (by decide) rfl) (fun i h => hi i 5 _ h (by decide) rfl) (fun i h => hi i 6 _ h (by decide) rfl) (fun i h => hi i 7 _ h (by decide) rfl) (fun i h => hst i 8 _ h (by decide) rfl)
    hO (fun i w1 hi' hb => Ok.at_below (w1 := w1) (put_ok (vs.getD i vl0) (hall i hi')) hD hg hb ⟨rfl, fun j x hj => ?_⟩) (fun i hi' => putV_size (hall i hi')) (fun i hi' => rowK_size hall i hi')).mono fun e w' ⟨he, hb⟩ => ?_
  · rcases j with _ | j
    · simp at hj
      subst hj
      refine .agg rfl fun j y hy => ?_
      rcases j with _ | _ | _ | _ | _ | _ | _ | _ | _ | j
      · simp at hy; subst hy; exact .b _
      · simp at hy; subst hy; exact .b _
      · simp at hy; subst hy; exact .b _
      · simp at hy; subst hy; exact (hsl i hi').2
      · simp at hy; subst hy; exact .b _
      · simp at hy; subst hy; exact .b _
      · simp at hy; subst hy; exact .b _
      · simp at hy; subst hy; exact .b _
      · simp at hy; subst hy; exact .b _
      · simp at hy
    · simp at hj
  · obtain ⟨t, m⟩ := MR.below hD hg hb
    exact ⟨_, noPhi, D, he, t, m, .b _⟩
end
theorem RowPut_ok (ts : List Ty) (vs : List Vl) (ht : ts.length ≤ 2000000) (hv : VsIn vs) : Ok Tryz.prog 15 [vTys ts, vVls vs] (vS (rowO (okRow ts vs) vs)) [] := by
  unfold rowO
  cases hk : okRow ts vs with
  | false =>
    have hO := RowOk_ok ts vs ht hv
    rw [hk] at hO
    rw [if_neg (by decide)]
    refine Ok.walk Tryz.func15 rfl ?_; simp only [startSt, show Tryz.f15.ntmps = 24 from rfl, List.length_cons, List.length_nil, Nat.reduceAdd, Nat.reduceSub, List.replicate, List.cons_append, List.nil_append]
    repeat' first | (with_reducible first | refine W.seq ?_ | refine W.region ?_ | refine W_ret ?_ | refine Seq.normal ?_ | refine Seq.ret ?_ | refine aops_nil ?_) | ((with_reducible apply aops_callF); (case hg => exact rfl); (case ho => exact rfl); (case hc => exact rfl); (case hf => exact rfl); (case hok => first | exact hO); (case hcal => first | assumption | kernel_rfl); (case hcl => (with_reducible simp only [List.map_cons, List.map_nil, List.forall_mem_cons, St.eval, List.getD_cons_zero, List.getD_cons_succ]); (repeat' with_reducible first | exact Cln.b _ | exact cln_strs | exact cln_wts | exact cln_vls | exact cln_tys | exact cln_vI | exact cln_nil | refine And.intro ?_ ?_ | refine Cln.agg ?_ | rw [List.forall_mem_cons])); (case' h => dsimp only [put, List.set])) | ((with_reducible refine aops_run ?_ (fun K' hK' => ?_)); exact rfl) | ((with_reducible refine hK' _ _ ?_); clear hK'; dsimp only [put, List.set]) | ((with_reducible apply W_cond); (case hc => exact rfl); all_goals intro hc; all_goals try (exfalso; first | omega | exact hc rfl | exact hc trivial | exact Bool.noConfusion hc)) | ((with_reducible first | refine Ends.ret ?_ | refine Ends.normal ?_); simp only [aRes, show Tryz.f15.results.toList = [.tmp 4] from rfl, aRess, aResV, oneOf, List.getD_cons_zero, List.getD_cons_succ]) | (simp only [aop, St.eval, List.getD_cons_zero, List.getD_cons_succ, aUn, Bool.not_false]; (all_goals fail_if_success show False))
    all_goals exact Out.flat' rfl
  | true =>
    rw [if_pos rfl]
    exact rowput_in ts vs ht hv hk
end Go.Proofs.YtneapbfomhalpaaGreatDoor.T
