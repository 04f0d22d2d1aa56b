/- The draws of the store, walked, part 3: lists of pages. -/
import Derived.Test.YtknciobaifdafaaGreatDoorQEZ
import Derived.Test.YtknciobaifdafaaGreatDoorQG1
import Derived.Test.YtknciobaifdafaaGreatDoorQDC
import Derived.Test.YtknciobaifdafaaGreatDoorQD
import Derived.Test.YtknciobaifdafaaGreatDoorQS0
set_option linter.unusedVariables false
set_option maxRecDepth 100000
set_option maxHeartbeats 4000000
set_option linter.unusedSimpArgs false
namespace Go.Pv
def kS (b : List Int) : Nat → Int → Nat → List Wt → List Wt × Nat
  | 0, _, p, out => (out, p)
  | n + 1, a, p, out => if a < 20 then kS b n (a + 1 + ae b (p + 1) 3) (p + 2) (out ++ [⟨a, jJ b p⟩]) else (out, p)
def dI (b : List Int) (p : Nat) : List Wt × Nat := kS b (1 + ae b (p + 1) 4).toNat (ae b p 4) (p + 2) []
structure LsS where
  n : Nat
  a : Int
  p : Nat
  out : List Wt
theorem GN {b : List Int} : ∀ (n : Nat) (a : Int) (p : Nat) (out : List Wt), p ≤ (kS b n a p out).2 ∧ (kS b n a p out).2 ≤ p + 2 * n
  | 0, a, p, out => ⟨Nat.le_refl _, Nat.le_refl _⟩
  | n + 1, a, p, out => by
    unfold kS
    split
    · have := GN (b := b) n (a + 1 + ae b (p + 1) 3) (p + 2) (out ++ [⟨a, jJ b p⟩])
      omega
    · dsimp only; omega
structure LsOk (a : Int) (out : List Wt) : Prop where
  at_ : ∀ k, k < out.length → 0 ≤ (out.getD k wt0).cell ∧ (out.getD k wt0).cell ≤ 19 ∧ (out.getD k wt0).cell < a
  up : ∀ k, k + 1 < out.length → (out.getD k wt0).cell < (out.getD (k + 1) wt0).cell
  text : ∀ k, k < out.length → (out.getD k wt0).text.data.toList ∈ txL ∧ (out.getD k wt0).text.size ≤ 40
theorem rU {out : List Wt} {x : Wt} {k : Nat} : (out ++ [x]).getD k wt0 = if k < out.length then out.getD k wt0 else if k = out.length then x else wt0 := by
  rw [List.getD_eq_getElem?_getD, List.getD_eq_getElem?_getD]
  by_cases h : k < out.length
  · rw [if_pos h, List.getElem?_append_left h]
  · rw [if_neg h, List.getElem?_append_right (by omega)]
    by_cases h2 : k = out.length
    · rw [if_pos h2, h2, Nat.sub_self]; rfl
    · rw [if_neg h2, List.getElem?_eq_none (by simp; omega)]; rfl
theorem LsOk.snoc {a a' : Int} {out : List Wt} {t : ByteArray} (h : LsOk a out) (ha : 0 ≤ a ∧ a < 20) (haa : a < a') (ht : t.data.toList ∈ txL ∧ t.size ≤ 40) : LsOk a' (out ++ [⟨a, t⟩]) := by
  refine ⟨fun k hk => ?_, fun k hk => ?_, fun k hk => ?_⟩
  · rw [List.length_append, List.length_cons, List.length_nil] at hk
    rw [rU]
    split
    · have := h.at_ k (by assumption); omega
    · rw [if_pos (by omega)]; dsimp only; omega
  · rw [List.length_append, List.length_cons, List.length_nil] at hk
    rw [rU, rU, if_pos (by omega)]
    split
    · exact h.up k (by assumption)
    · rw [if_pos (by omega)]; exact (h.at_ k (by omega)).2.2
  · rw [List.length_append, List.length_cons, List.length_nil] at hk
    rw [rU]
    split
    · exact h.text k (by assumption)
    · rw [if_pos (by omega)]; exact ht
theorem Di {b : List Int} (hb : ∀ q, q ≤ 1000000 → RdOk b q) : ∀ (n : Nat) (a : Int) (p : Nat) (out : List Wt), p + 2 * n ≤ 1000000 → 0 ≤ a → LsOk a out → (0 < n ∧ a < 20 ∨ 0 < out.length) → ∃ a', LsOk a' (kS b n a p out).1 ∧ 0 < (kS b n a p out).1.length ∧ (kS b n a p out).1.length ≤ out.length + n
  | 0, a, p, out, _, _, h, hne => ⟨a, h, by unfold kS; dsimp only; omega, Nat.le_refl _⟩
  | n + 1, a, p, out, hp, ha, h, hne => by
    unfold kS
    split
    · have h3 := az (hb (p + 1) (by omega)) (n := 3) (by omega)
      obtain ⟨a', h1, h2, h4⟩ := Di hb n (a + 1 + ae b (p + 1) 3) (p + 2) (out ++ [⟨a, jJ b p⟩]) (by omega) (by omega) (h.snoc ⟨ha, by assumption⟩ (by omega) (oM (hb p (by omega)))) (.inr (by simp))
      exact ⟨a', h1, h2, by simp at h4; omega⟩
    · exact ⟨a, h, by dsimp only; omega, by dsimp only; omega⟩
theorem LsOk.listOk {a : Int} {l : List Wt} (h : LsOk a l) (h0 : 0 < l.length) (h4 : l.length ≤ 4) : Go.Pv.listOk l = true := by
  unfold Go.Pv.listOk
  rw [Bool.and_eq_true, Bool.not_eq_true']
  refine ⟨lG fun k hk => ?_, decide_eq_true ⟨h0, by omega⟩⟩
  have h1 := h.at_ k hk
  have h2 := h.text k hk
  unfold lM
  rw [Bool.or_eq_false_iff, Bool.or_eq_false_iff]
  refine ⟨⟨decide_eq_false (by omega), decide_eq_false (by omega)⟩, ?_⟩
  rcases k with _ | k
  · simp
  · have := h.up k hk
    rw [decide_eq_true (by omega : 0 < k + 1), Bool.true_and]
    exact decide_eq_false (by rw [show k + 1 - 1 = k from rfl]; omega)
theorem qH {b : List Int} {p : Nat} (hb : ∀ q, q ≤ 1000000 → RdOk b q) (hp : p + 10 ≤ 1000000) : Go.Pv.listOk (dI b p).1 = true ∧ (dI b p).1.length ≤ 4 ∧ (∀ i, i < (dI b p).1.length → ((dI b p).1.getD i wt0).text.data.toList ∈ txL) ∧ p + 2 ≤ (dI b p).2 ∧ (dI b p).2 ≤ p + 10 := by
  have h1 := az (hb p (by omega)) (n := 4) (by omega)
  have h2 := az (hb (p + 1) (by omega)) (n := 4) (by omega)
  unfold dI
  obtain ⟨a', g1, g2, g3⟩ := Di hb (1 + ae b (p + 1) 4).toNat (ae b p 4) (p + 2) [] (by omega) (by omega) ⟨by simp, by simp, by simp⟩ (.inl ⟨by omega, by omega⟩)
  have g4 := GN (b := b) (1 + ae b (p + 1) 4).toNat (ae b p 4) (p + 2) []
  simp only [List.length_nil] at g3
  exact ⟨g1.listOk g2 (by omega), by omega, fun i hi => (g1.text i hi).1, by omega, by omega⟩
end Go.Pv
namespace Go.Proofs.YtknciobaifdafaaGreatDoor.T
open Go Go.Pv Go.Proofs.YtknciobaifdafaaGreatDoor.EF
theorem QT (b : List Int) (p : Nat) (hb : ∀ q, q ≤ 1000000 → RdOk b q) (hp : p + 10 ≤ 1000000) : OkS Tryz.prog 138 [.ptr 0 0] [(123, cRd b p)] (fun i => i = 0) (.ref 1 0 (dI b p).1.length) [(123, cRd b (dI b p).2), (77, (dI b p).1.flatMap cWt)] := by
  have h1 := az (hb p (by omega)) (n := 4) (by omega)
  have h2 := az (hb (p + 1) (by omega)) (n := 4) (by omega)
  have w1 : IntKind.i64.wrap (1 + ae b (p + 1) 4) = 1 + ae b (p + 1) 4 := af (by omega) (by omega)
  obtain ⟨k, hk⟩ : ∃ k : Nat, 1 + ae b (p + 1) 4 = k := ⟨(1 + ae b (p + 1) 4).toNat, by omega⟩
  have hk4 : k ≤ 4 := by omega
  generalize hR : dI b p = R
  unfold dI at hR
  rw [hk, Int.toNat_natCast] at hR
  rw [hk] at w1
  refine stS Tryz.func138 [.tmp 2] 33 rfl rfl rfl ?_
  repeat' first | refine sS ?_ | ((with_reducible show aC ..); refine cM rfl rfl rfl rfl (gB b _ (by simp only [upd]; rfl) (hb _ (by omega))) ?_) | refine sO (fun K' hK' => ?_) | (refine sE hK' ?_; clear hK') | refine sU ?_ ?_ | exact sX | (simp only [go_sem, Nat.reduceAdd, Nat.reduceMul, Nat.reduceEqDiff, Nat.reduceLeDiff, hk, w1]; (all_goals fail_if_success show False)) | fail
  refine W.loop (fun x : LsS => ⟨[.ptr 0 0, .any, .any, .ref 1 0 x.out.length, vI x.a, vI x.n, .any, .any, .any, .any, .any, .any, .any, .any, .any, .any, .any, .any, .any, .any, .any, .any, .any, .any, .any, .any, .any, .any, .any, .any, .any, .any, .any], aZ [(0, 123, cRd b x.p), (1, 77, x.out.flatMap cWt)]⟩)
    (fun x => x.n ≤ 4 ∧ (0 ≤ x.a ∧ x.a + 3 * x.n ≤ 15) ∧ x.p + 2 * x.n ≤ p + 10 ∧ x.out.length + x.n ≤ 4 ∧ kS b x.n x.a x.p x.out = R) (fun x => x.n) ⟨k, ae b p 4, p + 2, []⟩ ?wk0 ⟨hk4, ⟨h1.1, by dsimp only; omega⟩, by dsimp only; omega, by simp; omega, hR⟩ (fun x hx => ?_)
  case wk0 => exact kp [⟨0, 0, 123, (cRd b (p + 2))⟩, ⟨32768, 1, 77, []⟩]
  obtain ⟨n, a, q, out⟩ := x
  dsimp only at hx ⊢
  obtain ⟨hn, ⟨ha0, ha⟩, hq, ho, hG⟩ := hx
  by_cases hcc : 0 < n ∧ a < 20
  · obtain ⟨m, rfl⟩ : ∃ m, n = m + 1 := ⟨n - 1, by omega⟩
    have h3 := az (hb (q + 1) (by omega)) (n := 3) (by omega)
    have v1 : IntKind.i64.wrap (a + 1) = a + 1 := af (by omega) (by omega)
    have v2 : IntKind.i64.wrap (a + 1 + ae b (q + 1) 3) = a + 1 + ae b (q + 1) 3 := af (by omega) (by omega)
    have v3 : IntKind.i64.wrap (((m + 1 : Nat) : Int) - 1) = (m : Int) := by rw [af (by omega) (by omega)]; omega
    repeat' first | refine sS ?_ | ((with_reducible show aC ..); first | refine cM rfl rfl rfl rfl (Jy b (by simp only [upd]; rfl) (hb _ (by omega))) ?_ | refine cM rfl rfl rfl rfl (gB b _ (by simp only [upd]; rfl) (hb _ (by omega))) ?_) | refine sO (fun K' hK' => ?_) | (refine sI (fun hg => ?_) (fun hg K' hK' => ?_) <;> try exact sZ hg) | (refine sE hK' ?_; clear hK') | (refine sD (fun hc => ?_) (fun hc => ?_) <;> try exact sZ hc) | refine sU ?_ ?_ | exact sX | (simp only [go_sem, Nat.reduceAdd, Nat.reduceMul, Nat.reduceEqDiff, Nat.reduceLT, Nat.reduceLeDiff, v1, v2, v3]; (all_goals fail_if_success show False)) | fail
    refine Rnd.normal ⟨m, a + 1 + ae b (q + 1) 3, q + 2, out ++ [⟨a, jJ b q⟩]⟩ ⟨by dsimp only; omega, ⟨by dsimp only; omega, by dsimp only; omega⟩, by dsimp only; omega, by simp; omega, ?_⟩ (by dsimp only; omega) ?_
    · dsimp only
      rw [← hG]
      conv => rhs; unfold kS; rw [if_pos hcc.2]
    · rw [show out.flatMap cWt ++ [vI a, vS (jJ b q)] = (out ++ [⟨a, jJ b q⟩] : List Wt).flatMap cWt by simp [cWt], show out.length + 1 = (out ++ [⟨a, jJ b q⟩] : List Wt).length by simp]
      exact kp [⟨0, 0, 123, (cRd b (q + 2))⟩, ⟨114784, 1, 77, ((out ++ [⟨a, jJ b q⟩] : List Wt).flatMap cWt)⟩]
  · have e : R = (out, q) := by
      rw [← hG]
      rcases n with _ | n
      · rfl
      · unfold kS; rw [if_neg (by omega)]
    rw [e]
    repeat' first | refine sS ?_ | refine sO (fun K' hK' => ?_) | refine sY ?_ | (refine sI (fun hg => ?_) (fun hg K' hK' => ?_) <;> try exact sZ hg) | (refine sE hK' ?_; clear hK') | (refine sD (fun hc => ?_) (fun hc => ?_) <;> try exact sZ hc) | ((with_reducible first | refine En.ret ?_ | refine En.normal ?_); simp only [go_sem]) | (simp only [go_sem]; (all_goals fail_if_success show False)) | fail
    all_goals exact kp [⟨0, 0, 123, (cRd b q)⟩, ⟨1, 1, 77, (out.flatMap cWt)⟩]
theorem IJ (l : List Wt) (n : Nat) : ∀ z ∈ l.flatMap cWt, HOk Tryz.prog z ∧ inC n z := fun z hz => by
  obtain ⟨x, _, h⟩ := List.mem_flatMap.1 hz
  simp only [cWt, List.mem_cons, List.not_mem_nil, or_false] at h
  rcases h with rfl | rfl <;> exact ⟨HOk.b _, trivial⟩
theorem xG {σ : Nat → Nat} (l : List Wt) : (l.flatMap cWt).map (renC σ) = l.flatMap cWt := by
  induction l with
  | nil => rfl
  | cons x l ih => rw [List.flatMap_cons, List.map_append, ih]; rfl
theorem PD {mem : Mem} {j : Nat} (K : Nat) (b : List Int) {p : Nat} (hj : mem j = .row 123 (cRd b p)) (hK : mem K = .free) (hb : ∀ q, q ≤ 1000000 → RdOk b q) (hp : p + 10 ≤ 1000000) : aK Tryz.prog 138 [.ptr j 0] mem fun y m => y = .ref K 0 (dI b p).1.length ∧ m = upd (upd mem K (.row 77 ((dI b p).1.flatMap cWt))) j (.row 123 (cRd b (dI b p).2)) :=
  aK.frame1 (news := [(77, (dI b p).1.flatMap cWt)]) K (QT b p hb hp) rfl hj rfl rfl (fun e he => by rw [List.mem_singleton.1 he]; exact xG _) (fun i hi => by rw [show K + i = K by rw [List.length_singleton] at hi; omega]; exact hK) (fun x hx => by rw [List.mem_singleton.1 hx]; exact jd (by decide)) (rd_h b p 1) (show HOk Tryz.prog _ from .inl ⟨_, _, _, rfl⟩) (fun z hz => (rd_h b _ 1 z hz).1) (fun e he z hz => by rw [List.mem_singleton.1 he] at hz; exact (IJ _ 1 z hz).1)
end Go.Proofs.YtknciobaifdafaaGreatDoor.T
set_option linter.unusedVariables false
set_option maxRecDepth 100000
set_option maxHeartbeats 8000000
set_option linter.unusedSimpArgs false
namespace Go.Pv
abbrev tJ (e : Step) : PV := .agg [vI e.kind, .val e.list.length (e.list.flatMap cWt), vI e.room, vI e.left, vI e.mask, vI e.cut, vI e.bytes, vB e.again]
def GR : List Int := [1, 2, 2, 2, 2, 3, 3, 3, 4]
def tK : List Int := [0, 5, 2, 3]
def qj : List Int := [-2, -1, 0]
def oN : List Int := [-1, 0]
def eU (n : Int) : List Int := [0, 3, 9, 12, 15, 20, 25, n]
theorem jK : tK.length = 4 := rfl
theorem jL : qj.length = 3 := rfl
theorem jM : oN.length = 2 := rfl
theorem iP {n : Int} : (eU n).length = 8 := rfl
def svK (b : List Int) (p : Nat) : Int := GR.getD (ae b p 9).toNat 0
def sv1 (b : List Int) (p : Nat) : Nat := (dI b (p + 1)).2
def sv2 (b : List Int) (p : Nat) : Nat := if ae b (sv1 b p) 4 = 0 then sv1 b p + 2 else sv1 b p + 1
def sv3 (b : List Int) (p : Nat) : Nat := if 3 ≤ svK b p then sv2 b p + 9 else sv2 b p
def fB (b : List Int) (p : Nat) : Step × Nat :=
  (⟨if ae b (sv3 b p) 30 = 0 then tK.getD (ae b (sv3 b p + 1) 4).toNat 0 else svK b p, (dI b (p + 1)).1,
    if ae b (sv3 b p) 30 = 0 then qj.getD (ae b (sv3 b p + 2) 3).toNat 0 else if ae b (sv1 b p) 4 = 0 then ae b (sv1 b p + 1) 6 else -1,
    if 3 ≤ svK b p then ae b (sv2 b p) 9 else -1,
    if ae b (sv3 b p) 30 = 0 then oN.getD (ae b (sv3 b p + 3) 2).toNat 0 else if 3 ≤ svK b p then kD b (sv2 b p + 1) else 0,
    if 3 ≤ svK b p then ae b (sv2 b p + 5) 6 else 0,
    if 3 ≤ svK b p then (eU (ae b (sv2 b p + 6) 40)).getD (ae b (sv2 b p + 7) 8).toNat 0 else 0,
    if 3 ≤ svK b p then decide (ae b (sv2 b p + 8) 4 = 0) else false⟩, if ae b (sv3 b p) 30 = 0 then sv3 b p + 4 else sv3 b p + 1)
def rV (e : Step) : Bool := decide (1 ≤ e.kind ∧ e.kind ≤ 4) && decide (-1 ≤ e.room) && decide (-1 ≤ e.left) && decide (0 ≤ e.mask)
def dY (b : List Int) (p : Nat) : Step × Nat := (if rV (fB b p).1 = true then (fB b p).1 else ⟨1, [], -1, -1, 0, 0, 0, false⟩, (fB b p).2)
theorem Em {b : List Int} {p : Nat} (hb : ∀ q, q ≤ 1000000 → RdOk b q) (hp : p + 40 ≤ 1000000) : p + 3 ≤ sv1 b p ∧ sv1 b p ≤ p + 11 ∧ sv2 b p ≤ p + 13 ∧ sv3 b p ≤ p + 22 ∧ (fB b p).2 ≤ p + 26 := by
  have h := qH (p := p + 1) hb (by omega)
  have h1 : sv1 b p = (dI b (p + 1)).2 := rfl
  have h2 : sv2 b p ≤ sv1 b p + 2 := by unfold sv2; split <;> omega
  have h3 : sv3 b p ≤ sv2 b p + 9 := by unfold sv3; split <;> omega
  have h4 : (fB b p).2 ≤ sv3 b p + 4 := by unfold fB; dsimp only; split <;> omega
  omega
theorem xH {b : List Int} {p : Nat} (hb : ∀ q, q ≤ 1000000 → RdOk b q) (hp : p + 40 ≤ 1000000) : StepD0 (dY b p).1 ∧ ((dY b p).1.kind = 2 ∨ (dY b p).1.kind = 3 → StepD (dY b p).1) ∧ (dY b p).2 ≤ p + 26 := by
  have h := qH (p := p + 1) hb (by omega)
  have hq := Em hb hp
  unfold dY
  split
  · rename_i hk
    unfold rV at hk
    rw [Bool.and_eq_true, Bool.and_eq_true, Bool.and_eq_true] at hk
    obtain ⟨⟨⟨k1, k2⟩, k3⟩, k4⟩ := hk
    have h0 : StepD0 (fB b p).1 := ⟨of_decide_eq_true k2, of_decide_eq_true k3, of_decide_eq_true k4⟩
    exact ⟨h0, fun _ => ⟨h0, h.1, h.2.1, h.2.2.1⟩, hq.2.2.2.2⟩
  · refine ⟨⟨Int.le_refl _, Int.le_refl _, Int.le_refl _⟩, fun e => ?_, hq.2.2.2.2⟩
    dsimp only at e
    omega
end Go.Pv
namespace Go.Proofs.YtknciobaifdafaaGreatDoor.T
open Go Go.Pv Go.Proofs.YtknciobaifdafaaGreatDoor.EF
theorem KY (e : Step) : Ok Tryz.prog 171 [tJ e] (vB (rV e)) [] := by
  have e1 : rV e = decide (1 ≤ e.kind ∧ e.kind ≤ 4 ∧ -1 ≤ e.room ∧ -1 ≤ e.left ∧ 0 ≤ e.mask) := by
    unfold rV
    rw [Bool.eq_iff_iff]
    simp only [Bool.and_eq_true, decide_eq_true_eq]
    omega
  rw [e1]
  refine stO Tryz.func171 [.tmp 2] 21 rfl rfl rfl ?_
  repeat' first | refine sS ?_ | ((with_reducible show aC ..); refine cF rfl rfl rfl rfl (pz _ _ _) ?_) | refine sO (fun K' hK' => ?_) | refine sY ?_ | (refine sI (fun hg => ?_) (fun hg K' hK' => ?_) <;> try exact sZ hg) | (refine sE hK' ?_; clear hK') | ((with_reducible first | refine En.ret ?_ | refine En.normal ?_); simp only [go_sem]) | (simp only [go_sem, Nat.reduceAdd, Nat.reduceMul, Nat.reduceLT]; (all_goals fail_if_success show False)) | fail
  all_goals first
    | exact Out.flat' (congrArg Value.bool (decide_eq_false (by omega)).symm)
    | exact Out.flat' (congrArg Value.bool (decide_eq_decide.2 (by omega)))
theorem Nq (b : List Int) (p : Nat) (hb : ∀ q, q ≤ 1000000 → RdOk b q) (hp : p + 40 ≤ 1000000) : OkS Tryz.prog 170 [.ptr 0 0] [(123, cRd b p)] (fun i => i = 0) (tJ (fB b p).1) [(123, cRd b (fB b p).2)] := by
  obtain ⟨q1, q2, q3, q4, _⟩ := Em hb hp
  have hL : ∀ {mem : Mem}, mem 0 = .row 123 (cRd b (p + 1)) → mem 200 = .free → _ := fun {mem} hj hK => PD (mem := mem) (j := 0) 200 b (p := p + 1) hj hK hb (by omega)
  have hk : ∀ {mem : Mem} {k : Nat}, mem 0 = .row 123 (cRd b p) → mem k = .row 3 (GR.map vI) → _ := fun {mem k} hj hk => oneR (mem := mem) (j := 0) (k := k) b GR (p := p) hj hk (hb _ (by omega)) (by decide) (by decide)
  have e1 : sv1 b p = (dI b (p + 1)).2 := rfl
  rw [← e1] at hL
  have ek : svK b p = GR.getD (ae b p (GR.length : Nat)).toNat 0 := rfl
  rw [← ek] at hk
  have hP : ∀ (n : Int) (q : Nat) {mem : Mem}, mem 0 = .row 123 (cRd b q) → q ≤ 1000000 → _ := fun n q {mem} hj hq => gB (mem := mem) (j := 0) b n hj (hb q hq)
  have hO : ∀ (l : List Int) (q : Nat) {mem : Mem} {k : Nat}, mem 0 = .row 123 (cRd b q) → mem k = .row 3 (l.map vI) → q ≤ 1000000 → 0 < l.length → l.length ≤ 1000 → _ := fun l q {mem k} hj hk hq h1 h2 => oneR (mem := mem) (j := 0) (k := k) b l hj hk (hb q hq) h1 h2
  have hM : ∀ (q : Nat) {mem : Mem}, mem 0 = .row 123 (cRd b q) → q + 4 ≤ 1000000 → _ := fun q {mem} hj hq => Jz (mem := mem) (j := 0) b hj (hb q (by omega)) hq
  by_cases c1 : ae b (sv1 b p) 4 = 0 <;> by_cases c2 : 3 ≤ svK b p <;> by_cases c3 : ae b (sv3 b p) 30 = 0
  · have hs2 : sv2 b p = sv1 b p + 2 := if_pos c1
    have hs3 : sv3 b p = sv2 b p + 9 := if_pos c2
    have e : fB b p = (⟨tK.getD (ae b (sv3 b p + 1) 4).toNat 0, (dI b (p + 1)).1, qj.getD (ae b (sv3 b p + 2) 3).toNat 0, ae b (sv2 b p) 9, oN.getD (ae b (sv3 b p + 3) 2).toNat 0, ae b (sv2 b p + 5) 6, (eU (ae b (sv2 b p + 6) 40)).getD (ae b (sv2 b p + 7) 8).toNat 0, decide (ae b (sv2 b p + 8) 4 = 0)⟩, sv3 b p + 4) := by
      unfold fB
      rw [if_pos c1, if_pos c3, if_pos c3, if_pos c3, if_pos c3]
      simp only [if_pos c2]
    rw [e]
    rw [hs3, hs2] at c3 ⊢
    generalize dI b (p + 1) = LV at hL e1 ⊢
    generalize sv1 b p = S1 at *
    generalize svK b p = kd at *
    dsimp only
    refine stS Tryz.func170 [.cell 2 158] 54 rfl rfl rfl ?_
    repeat' first | refine sS ?_ | ((with_reducible show aC ..); first | refine cM rfl rfl rfl rfl (hk (by simp only [upd]; rfl) (by simp only [upd]; rfl)) ?_ | refine cM rfl rfl rfl rfl (hL (by simp only [upd]; rfl) (by simp only [upd]; rfl)) ?_ | refine cM rfl rfl rfl rfl (hP 4 S1 (by simp only [upd]; rfl) (by omega)) ?_ | refine cM rfl rfl rfl rfl (hP 6 (S1 + 1) (by simp only [upd]; rfl) (by omega)) ?_ | refine cM rfl rfl rfl rfl (hP 9 (S1 + 2) (by simp only [upd]; rfl) (by omega)) ?_ | refine cM rfl rfl rfl rfl (hM (S1 + 2 + 1) (by simp only [upd]; rfl) (by omega)) ?_ | refine cM rfl rfl rfl rfl (hP 6 (S1 + 2 + 5) (by simp only [upd]; rfl) (by omega)) ?_ | refine cM rfl rfl rfl rfl (hP 40 (S1 + 2 + 6) (by simp only [upd]; rfl) (by omega)) ?_ | refine cM rfl rfl rfl rfl (hO (eU (ae b (S1 + 2 + 6) 40)) (S1 + 2 + 7) (by simp only [upd]; rfl) (by simp only [upd]; rfl) (by omega) (by simp [eU]) (by simp [eU])) ?_ | refine cM rfl rfl rfl rfl (hP 4 (S1 + 2 + 8) (by simp only [upd]; rfl) (by omega)) ?_ | refine cM rfl rfl rfl rfl (hP 30 (S1 + 2 + 9) (by simp only [upd]; rfl) (by omega)) ?_ | refine cM rfl rfl rfl rfl (hO tK ((S1 + 2 + 9) + 1) (by simp only [upd]; rfl) (by simp only [upd]; rfl) (by omega) (by decide) (by decide)) ?_ | refine cM rfl rfl rfl rfl (hO qj ((S1 + 2 + 9) + 2) (by simp only [upd]; rfl) (by simp only [upd]; rfl) (by omega) (by decide) (by decide)) ?_ | refine cM rfl rfl rfl rfl (hO oN ((S1 + 2 + 9) + 3) (by simp only [upd]; rfl) (by simp only [upd]; rfl) (by omega) (by decide) (by decide)) ?_) | refine sO (fun K' hK' => ?_) | (refine sE hK' ?_; clear hK') | (refine sD (fun hc => ?_) (fun hc => ?_) <;> try exact sZ hc) | refine sU ?_ ?_ | exact sX | ((with_reducible first | refine En.ret ?_ | refine En.normal ?_); simp only [go_sem, Nat.reduceAdd, Nat.reduceEqDiff, Nat.reduceLT, Nat.reduceLeDiff, jK, jL, jM, iP]) | (simp only [go_sem, Nat.reduceAdd, Nat.reduceMul, Nat.reduceEqDiff, Nat.reduceLT, Nat.reduceLeDiff, jK, jL, jM, iP]; (all_goals fail_if_success show False)) | fail
    all_goals exact kp [⟨0, 0, 123, (cRd b ((S1 + 2 + 9) + 4))⟩]
  · have hs2 : sv2 b p = sv1 b p + 2 := if_pos c1
    have hs3 : sv3 b p = sv2 b p + 9 := if_pos c2
    have e : fB b p = (⟨svK b p, (dI b (p + 1)).1, ae b (sv1 b p + 1) 6, ae b (sv2 b p) 9, kD b (sv2 b p + 1), ae b (sv2 b p + 5) 6, (eU (ae b (sv2 b p + 6) 40)).getD (ae b (sv2 b p + 7) 8).toNat 0, decide (ae b (sv2 b p + 8) 4 = 0)⟩, sv3 b p + 1) := by
      unfold fB
      rw [if_pos c1, if_neg c3, if_neg c3, if_neg c3, if_neg c3]
      simp only [if_pos c2]
    rw [e]
    rw [hs3, hs2] at c3 ⊢
    generalize dI b (p + 1) = LV at hL e1 ⊢
    generalize sv1 b p = S1 at *
    generalize svK b p = kd at *
    dsimp only
    refine stS Tryz.func170 [.cell 2 158] 54 rfl rfl rfl ?_
    repeat' first | refine sS ?_ | ((with_reducible show aC ..); first | refine cM rfl rfl rfl rfl (hk (by simp only [upd]; rfl) (by simp only [upd]; rfl)) ?_ | refine cM rfl rfl rfl rfl (hL (by simp only [upd]; rfl) (by simp only [upd]; rfl)) ?_ | refine cM rfl rfl rfl rfl (hP 4 S1 (by simp only [upd]; rfl) (by omega)) ?_ | refine cM rfl rfl rfl rfl (hP 6 (S1 + 1) (by simp only [upd]; rfl) (by omega)) ?_ | refine cM rfl rfl rfl rfl (hP 9 (S1 + 2) (by simp only [upd]; rfl) (by omega)) ?_ | refine cM rfl rfl rfl rfl (hM (S1 + 2 + 1) (by simp only [upd]; rfl) (by omega)) ?_ | refine cM rfl rfl rfl rfl (hP 6 (S1 + 2 + 5) (by simp only [upd]; rfl) (by omega)) ?_ | refine cM rfl rfl rfl rfl (hP 40 (S1 + 2 + 6) (by simp only [upd]; rfl) (by omega)) ?_ | refine cM rfl rfl rfl rfl (hO (eU (ae b (S1 + 2 + 6) 40)) (S1 + 2 + 7) (by simp only [upd]; rfl) (by simp only [upd]; rfl) (by omega) (by simp [eU]) (by simp [eU])) ?_ | refine cM rfl rfl rfl rfl (hP 4 (S1 + 2 + 8) (by simp only [upd]; rfl) (by omega)) ?_ | refine cM rfl rfl rfl rfl (hP 30 (S1 + 2 + 9) (by simp only [upd]; rfl) (by omega)) ?_) | refine sO (fun K' hK' => ?_) | (refine sE hK' ?_; clear hK') | (refine sD (fun hc => ?_) (fun hc => ?_) <;> try exact sZ hc) | refine sU ?_ ?_ | exact sX | ((with_reducible first | refine En.ret ?_ | refine En.normal ?_); simp only [go_sem, Nat.reduceAdd, Nat.reduceEqDiff, Nat.reduceLT, Nat.reduceLeDiff, iP]) | (simp only [go_sem, Nat.reduceAdd, Nat.reduceMul, Nat.reduceEqDiff, Nat.reduceLT, Nat.reduceLeDiff, iP]; (all_goals fail_if_success show False)) | fail
    all_goals exact kp [⟨0, 0, 123, (cRd b ((S1 + 2 + 9) + 1))⟩]
  · have hs2 : sv2 b p = sv1 b p + 2 := if_pos c1
    have hs3 : sv3 b p = sv2 b p := if_neg c2
    have e : fB b p = (⟨tK.getD (ae b (sv3 b p + 1) 4).toNat 0, (dI b (p + 1)).1, qj.getD (ae b (sv3 b p + 2) 3).toNat 0, -1, oN.getD (ae b (sv3 b p + 3) 2).toNat 0, 0, 0, false⟩, sv3 b p + 4) := by
      unfold fB
      rw [if_pos c1, if_pos c3, if_pos c3, if_pos c3, if_pos c3]
      simp only [if_neg c2]
    rw [e]
    rw [hs3, hs2] at c3 ⊢
    generalize dI b (p + 1) = LV at hL e1 ⊢
    generalize sv1 b p = S1 at *
    generalize svK b p = kd at *
    dsimp only
    refine stS Tryz.func170 [.cell 2 158] 54 rfl rfl rfl ?_
    repeat' first | refine sS ?_ | ((with_reducible show aC ..); first | refine cM rfl rfl rfl rfl (hk (by simp only [upd]; rfl) (by simp only [upd]; rfl)) ?_ | refine cM rfl rfl rfl rfl (hL (by simp only [upd]; rfl) (by simp only [upd]; rfl)) ?_ | refine cM rfl rfl rfl rfl (hP 4 S1 (by simp only [upd]; rfl) (by omega)) ?_ | refine cM rfl rfl rfl rfl (hP 6 (S1 + 1) (by simp only [upd]; rfl) (by omega)) ?_ | refine cM rfl rfl rfl rfl (hP 30 (S1 + 2) (by simp only [upd]; rfl) (by omega)) ?_ | refine cM rfl rfl rfl rfl (hO tK ((S1 + 2) + 1) (by simp only [upd]; rfl) (by simp only [upd]; rfl) (by omega) (by decide) (by decide)) ?_ | refine cM rfl rfl rfl rfl (hO qj ((S1 + 2) + 2) (by simp only [upd]; rfl) (by simp only [upd]; rfl) (by omega) (by decide) (by decide)) ?_ | refine cM rfl rfl rfl rfl (hO oN ((S1 + 2) + 3) (by simp only [upd]; rfl) (by simp only [upd]; rfl) (by omega) (by decide) (by decide)) ?_) | refine sO (fun K' hK' => ?_) | (refine sE hK' ?_; clear hK') | (refine sD (fun hc => ?_) (fun hc => ?_) <;> try exact sZ hc) | refine sU ?_ ?_ | exact sX | ((with_reducible first | refine En.ret ?_ | refine En.normal ?_); simp only [go_sem, Nat.reduceAdd, Nat.reduceEqDiff, Nat.reduceLT, Nat.reduceLeDiff, jK, jL, jM]) | (simp only [go_sem, Nat.reduceAdd, Nat.reduceMul, Nat.reduceEqDiff, Nat.reduceLT, Nat.reduceLeDiff, jK, jL, jM]; (all_goals fail_if_success show False)) | fail
    all_goals exact kp [⟨0, 0, 123, (cRd b ((S1 + 2) + 4))⟩]
  · have hs2 : sv2 b p = sv1 b p + 2 := if_pos c1
    have hs3 : sv3 b p = sv2 b p := if_neg c2
    have e : fB b p = (⟨svK b p, (dI b (p + 1)).1, ae b (sv1 b p + 1) 6, -1, 0, 0, 0, false⟩, sv3 b p + 1) := by
      unfold fB
      rw [if_pos c1, if_neg c3, if_neg c3, if_neg c3, if_neg c3]
      simp only [if_neg c2]
    rw [e]
    rw [hs3, hs2] at c3 ⊢
    generalize dI b (p + 1) = LV at hL e1 ⊢
    generalize sv1 b p = S1 at *
    generalize svK b p = kd at *
    dsimp only
    refine stS Tryz.func170 [.cell 2 158] 54 rfl rfl rfl ?_
    repeat' first | refine sS ?_ | ((with_reducible show aC ..); first | refine cM rfl rfl rfl rfl (hk (by simp only [upd]; rfl) (by simp only [upd]; rfl)) ?_ | refine cM rfl rfl rfl rfl (hL (by simp only [upd]; rfl) (by simp only [upd]; rfl)) ?_ | refine cM rfl rfl rfl rfl (hP 4 S1 (by simp only [upd]; rfl) (by omega)) ?_ | refine cM rfl rfl rfl rfl (hP 6 (S1 + 1) (by simp only [upd]; rfl) (by omega)) ?_ | refine cM rfl rfl rfl rfl (hP 30 (S1 + 2) (by simp only [upd]; rfl) (by omega)) ?_) | refine sO (fun K' hK' => ?_) | (refine sE hK' ?_; clear hK') | (refine sD (fun hc => ?_) (fun hc => ?_) <;> try exact sZ hc) | refine sU ?_ ?_ | exact sX | ((with_reducible first | refine En.ret ?_ | refine En.normal ?_); simp only [go_sem, Nat.reduceAdd, Nat.reduceEqDiff, Nat.reduceLT, Nat.reduceLeDiff]) | (simp only [go_sem, Nat.reduceAdd, Nat.reduceMul, Nat.reduceEqDiff, Nat.reduceLT, Nat.reduceLeDiff]; (all_goals fail_if_success show False)) | fail
    all_goals exact kp [⟨0, 0, 123, (cRd b ((S1 + 2) + 1))⟩]
  · have hs2 : sv2 b p = sv1 b p + 1 := if_neg c1
    have hs3 : sv3 b p = sv2 b p + 9 := if_pos c2
    have e : fB b p = (⟨tK.getD (ae b (sv3 b p + 1) 4).toNat 0, (dI b (p + 1)).1, qj.getD (ae b (sv3 b p + 2) 3).toNat 0, ae b (sv2 b p) 9, oN.getD (ae b (sv3 b p + 3) 2).toNat 0, ae b (sv2 b p + 5) 6, (eU (ae b (sv2 b p + 6) 40)).getD (ae b (sv2 b p + 7) 8).toNat 0, decide (ae b (sv2 b p + 8) 4 = 0)⟩, sv3 b p + 4) := by
      unfold fB
      rw [if_neg c1, if_pos c3, if_pos c3, if_pos c3, if_pos c3]
      simp only [if_pos c2]
    rw [e]
    rw [hs3, hs2] at c3 ⊢
    generalize dI b (p + 1) = LV at hL e1 ⊢
    generalize sv1 b p = S1 at *
    generalize svK b p = kd at *
    dsimp only
    refine stS Tryz.func170 [.cell 2 158] 54 rfl rfl rfl ?_
    repeat' first | refine sS ?_ | ((with_reducible show aC ..); first | refine cM rfl rfl rfl rfl (hk (by simp only [upd]; rfl) (by simp only [upd]; rfl)) ?_ | refine cM rfl rfl rfl rfl (hL (by simp only [upd]; rfl) (by simp only [upd]; rfl)) ?_ | refine cM rfl rfl rfl rfl (hP 4 S1 (by simp only [upd]; rfl) (by omega)) ?_ | refine cM rfl rfl rfl rfl (hP 9 (S1 + 1) (by simp only [upd]; rfl) (by omega)) ?_ | refine cM rfl rfl rfl rfl (hM (S1 + 1 + 1) (by simp only [upd]; rfl) (by omega)) ?_ | refine cM rfl rfl rfl rfl (hP 6 (S1 + 1 + 5) (by simp only [upd]; rfl) (by omega)) ?_ | refine cM rfl rfl rfl rfl (hP 40 (S1 + 1 + 6) (by simp only [upd]; rfl) (by omega)) ?_ | refine cM rfl rfl rfl rfl (hO (eU (ae b (S1 + 1 + 6) 40)) (S1 + 1 + 7) (by simp only [upd]; rfl) (by simp only [upd]; rfl) (by omega) (by simp [eU]) (by simp [eU])) ?_ | refine cM rfl rfl rfl rfl (hP 4 (S1 + 1 + 8) (by simp only [upd]; rfl) (by omega)) ?_ | refine cM rfl rfl rfl rfl (hP 30 (S1 + 1 + 9) (by simp only [upd]; rfl) (by omega)) ?_ | refine cM rfl rfl rfl rfl (hO tK ((S1 + 1 + 9) + 1) (by simp only [upd]; rfl) (by simp only [upd]; rfl) (by omega) (by decide) (by decide)) ?_ | refine cM rfl rfl rfl rfl (hO qj ((S1 + 1 + 9) + 2) (by simp only [upd]; rfl) (by simp only [upd]; rfl) (by omega) (by decide) (by decide)) ?_ | refine cM rfl rfl rfl rfl (hO oN ((S1 + 1 + 9) + 3) (by simp only [upd]; rfl) (by simp only [upd]; rfl) (by omega) (by decide) (by decide)) ?_) | refine sO (fun K' hK' => ?_) | (refine sE hK' ?_; clear hK') | (refine sD (fun hc => ?_) (fun hc => ?_) <;> try exact sZ hc) | refine sU ?_ ?_ | exact sX | ((with_reducible first | refine En.ret ?_ | refine En.normal ?_); simp only [go_sem, Nat.reduceAdd, Nat.reduceEqDiff, Nat.reduceLT, Nat.reduceLeDiff, jK, jL, jM, iP]) | (simp only [go_sem, Nat.reduceAdd, Nat.reduceMul, Nat.reduceEqDiff, Nat.reduceLT, Nat.reduceLeDiff, jK, jL, jM, iP]; (all_goals fail_if_success show False)) | fail
    all_goals exact kp [⟨0, 0, 123, (cRd b ((S1 + 1 + 9) + 4))⟩]
  · have hs2 : sv2 b p = sv1 b p + 1 := if_neg c1
    have hs3 : sv3 b p = sv2 b p + 9 := if_pos c2
    have e : fB b p = (⟨svK b p, (dI b (p + 1)).1, -1, ae b (sv2 b p) 9, kD b (sv2 b p + 1), ae b (sv2 b p + 5) 6, (eU (ae b (sv2 b p + 6) 40)).getD (ae b (sv2 b p + 7) 8).toNat 0, decide (ae b (sv2 b p + 8) 4 = 0)⟩, sv3 b p + 1) := by
      unfold fB
      rw [if_neg c1, if_neg c3, if_neg c3, if_neg c3, if_neg c3]
      simp only [if_pos c2]
    rw [e]
    rw [hs3, hs2] at c3 ⊢
    generalize dI b (p + 1) = LV at hL e1 ⊢
    generalize sv1 b p = S1 at *
    generalize svK b p = kd at *
    dsimp only
    refine stS Tryz.func170 [.cell 2 158] 54 rfl rfl rfl ?_
    repeat' first | refine sS ?_ | ((with_reducible show aC ..); first | refine cM rfl rfl rfl rfl (hk (by simp only [upd]; rfl) (by simp only [upd]; rfl)) ?_ | refine cM rfl rfl rfl rfl (hL (by simp only [upd]; rfl) (by simp only [upd]; rfl)) ?_ | refine cM rfl rfl rfl rfl (hP 4 S1 (by simp only [upd]; rfl) (by omega)) ?_ | refine cM rfl rfl rfl rfl (hP 9 (S1 + 1) (by simp only [upd]; rfl) (by omega)) ?_ | refine cM rfl rfl rfl rfl (hM (S1 + 1 + 1) (by simp only [upd]; rfl) (by omega)) ?_ | refine cM rfl rfl rfl rfl (hP 6 (S1 + 1 + 5) (by simp only [upd]; rfl) (by omega)) ?_ | refine cM rfl rfl rfl rfl (hP 40 (S1 + 1 + 6) (by simp only [upd]; rfl) (by omega)) ?_ | refine cM rfl rfl rfl rfl (hO (eU (ae b (S1 + 1 + 6) 40)) (S1 + 1 + 7) (by simp only [upd]; rfl) (by simp only [upd]; rfl) (by omega) (by simp [eU]) (by simp [eU])) ?_ | refine cM rfl rfl rfl rfl (hP 4 (S1 + 1 + 8) (by simp only [upd]; rfl) (by omega)) ?_ | refine cM rfl rfl rfl rfl (hP 30 (S1 + 1 + 9) (by simp only [upd]; rfl) (by omega)) ?_) | refine sO (fun K' hK' => ?_) | (refine sE hK' ?_; clear hK') | (refine sD (fun hc => ?_) (fun hc => ?_) <;> try exact sZ hc) | refine sU ?_ ?_ | exact sX | ((with_reducible first | refine En.ret ?_ | refine En.normal ?_); simp only [go_sem, Nat.reduceAdd, Nat.reduceEqDiff, Nat.reduceLT, Nat.reduceLeDiff, iP]) | (simp only [go_sem, Nat.reduceAdd, Nat.reduceMul, Nat.reduceEqDiff, Nat.reduceLT, Nat.reduceLeDiff, iP]; (all_goals fail_if_success show False)) | fail
    all_goals exact kp [⟨0, 0, 123, (cRd b ((S1 + 1 + 9) + 1))⟩]
  · have hs2 : sv2 b p = sv1 b p + 1 := if_neg c1
    have hs3 : sv3 b p = sv2 b p := if_neg c2
    have e : fB b p = (⟨tK.getD (ae b (sv3 b p + 1) 4).toNat 0, (dI b (p + 1)).1, qj.getD (ae b (sv3 b p + 2) 3).toNat 0, -1, oN.getD (ae b (sv3 b p + 3) 2).toNat 0, 0, 0, false⟩, sv3 b p + 4) := by
      unfold fB
      rw [if_neg c1, if_pos c3, if_pos c3, if_pos c3, if_pos c3]
      simp only [if_neg c2]
    rw [e]
    rw [hs3, hs2] at c3 ⊢
    generalize dI b (p + 1) = LV at hL e1 ⊢
    generalize sv1 b p = S1 at *
    generalize svK b p = kd at *
    dsimp only
    refine stS Tryz.func170 [.cell 2 158] 54 rfl rfl rfl ?_
    repeat' first | refine sS ?_ | ((with_reducible show aC ..); first | refine cM rfl rfl rfl rfl (hk (by simp only [upd]; rfl) (by simp only [upd]; rfl)) ?_ | refine cM rfl rfl rfl rfl (hL (by simp only [upd]; rfl) (by simp only [upd]; rfl)) ?_ | refine cM rfl rfl rfl rfl (hP 4 S1 (by simp only [upd]; rfl) (by omega)) ?_ | refine cM rfl rfl rfl rfl (hP 30 (S1 + 1) (by simp only [upd]; rfl) (by omega)) ?_ | refine cM rfl rfl rfl rfl (hO tK ((S1 + 1) + 1) (by simp only [upd]; rfl) (by simp only [upd]; rfl) (by omega) (by decide) (by decide)) ?_ | refine cM rfl rfl rfl rfl (hO qj ((S1 + 1) + 2) (by simp only [upd]; rfl) (by simp only [upd]; rfl) (by omega) (by decide) (by decide)) ?_ | refine cM rfl rfl rfl rfl (hO oN ((S1 + 1) + 3) (by simp only [upd]; rfl) (by simp only [upd]; rfl) (by omega) (by decide) (by decide)) ?_) | refine sO (fun K' hK' => ?_) | (refine sE hK' ?_; clear hK') | (refine sD (fun hc => ?_) (fun hc => ?_) <;> try exact sZ hc) | refine sU ?_ ?_ | exact sX | ((with_reducible first | refine En.ret ?_ | refine En.normal ?_); simp only [go_sem, Nat.reduceAdd, Nat.reduceEqDiff, Nat.reduceLT, Nat.reduceLeDiff, jK, jL, jM]) | (simp only [go_sem, Nat.reduceAdd, Nat.reduceMul, Nat.reduceEqDiff, Nat.reduceLT, Nat.reduceLeDiff, jK, jL, jM]; (all_goals fail_if_success show False)) | fail
    all_goals exact kp [⟨0, 0, 123, (cRd b ((S1 + 1) + 4))⟩]
  · have hs2 : sv2 b p = sv1 b p + 1 := if_neg c1
    have hs3 : sv3 b p = sv2 b p := if_neg c2
    have e : fB b p = (⟨svK b p, (dI b (p + 1)).1, -1, -1, 0, 0, 0, false⟩, sv3 b p + 1) := by
      unfold fB
      rw [if_neg c1, if_neg c3, if_neg c3, if_neg c3, if_neg c3]
      simp only [if_neg c2]
    rw [e]
    rw [hs3, hs2] at c3 ⊢
    generalize dI b (p + 1) = LV at hL e1 ⊢
    generalize sv1 b p = S1 at *
    generalize svK b p = kd at *
    dsimp only
    refine stS Tryz.func170 [.cell 2 158] 54 rfl rfl rfl ?_
    repeat' first | refine sS ?_ | ((with_reducible show aC ..); first | refine cM rfl rfl rfl rfl (hk (by simp only [upd]; rfl) (by simp only [upd]; rfl)) ?_ | refine cM rfl rfl rfl rfl (hL (by simp only [upd]; rfl) (by simp only [upd]; rfl)) ?_ | refine cM rfl rfl rfl rfl (hP 4 S1 (by simp only [upd]; rfl) (by omega)) ?_ | refine cM rfl rfl rfl rfl (hP 30 (S1 + 1) (by simp only [upd]; rfl) (by omega)) ?_) | refine sO (fun K' hK' => ?_) | (refine sE hK' ?_; clear hK') | (refine sD (fun hc => ?_) (fun hc => ?_) <;> try exact sZ hc) | refine sU ?_ ?_ | exact sX | ((with_reducible first | refine En.ret ?_ | refine En.normal ?_); simp only [go_sem, Nat.reduceAdd, Nat.reduceEqDiff, Nat.reduceLT, Nat.reduceLeDiff]) | (simp only [go_sem, Nat.reduceAdd, Nat.reduceMul, Nat.reduceEqDiff, Nat.reduceLT, Nat.reduceLeDiff]; (all_goals fail_if_success show False)) | fail
    all_goals exact kp [⟨0, 0, 123, (cRd b ((S1 + 1) + 1))⟩]
theorem Nr (e : Step) : GOk Tryz.prog (tJ e) := fun z hz => by
  simp only [List.mem_cons, List.not_mem_nil, or_false] at hz
  rcases hz with rfl | rfl | rfl | rfl | rfl | rfl | rfl | rfl <;> first | exact HOk.b _ | exact dF
theorem QU {mem : Mem} {j : Nat} (b : List Int) {p : Nat} (hj : mem j = .row 123 (cRd b p)) (hb : ∀ q, q ≤ 1000000 → RdOk b q) (hp : p + 40 ≤ 1000000) : aK Tryz.prog 170 [.ptr j 0] mem fun y m => y = tJ (fB b p).1 ∧ m = upd mem j (.row 123 (cRd b (fB b p).2)) :=
  aK.frame1 (news := []) 0 (Nq b p hb hp) rfl hj rfl rfl (fun e he => by cases he) (fun i hi => absurd hi (Nat.not_lt_zero _)) (fun x hx => by rw [List.mem_singleton.1 hx]; exact jd (by decide)) (rd_h b p 1) (Nr _) (fun z hz => (rd_h b _ 1 z hz).1) (fun e he => by cases he)
end Go.Proofs.YtknciobaifdafaaGreatDoor.T
