/- Walks of the laws: FnStoreRestCrash. -/
import Derived.Test.YtknciobaifdafaaGreatDoorQEZ
import Derived.Test.YtknciobaifdafaaGreatDoorQXB
import Derived.Test.YtknciobaifdafaaGreatDoorQDJ
import Derived.Test.YtknciobaifdafaaGreatDoorQGQ
import Derived.Test.YtknciobaifdafaaGreatDoorQGR
set_option linter.unusedVariables false
set_option maxRecDepth 100000
set_option maxHeartbeats 40000000
set_option linter.unusedSimpArgs false
namespace Go.Proofs.YtknciobaifdafaaGreatDoor.T
open Go Go.Pv Go.Proofs.YtknciobaifdafaaGreatDoor.EF
theorem Hg (d : Dk) (m c b : Int) : (dH d m c b).cells.length ≤ d.cells.length ∧ (dH d m c b).waits.length = 0 := by
  unfold dH
  split
  · exact ⟨Nat.le_of_eq (ik _ _ _ _ _), rfl⟩
  · exact ⟨Nat.zero_le _, rfl⟩
theorem qJ (c e : List Int) (hc : ∀ k, 0 ≤ c.getD k 0 ∧ c.getD k 0 ≤ 255) (he : ∀ k, 0 ≤ e.getD k 0 ∧ e.getD k 0 ≤ 255) (hlc : c.length ≤ 9223372036854775807) (hle : e.length ≤ 9223372036854775807) : Ok Tryz.prog 8 [.val c.length (c.map vU8), .val e.length (e.map vU8)] (vB true) [] := by
  by_cases hlen : c.length ≤ 1048576 ∧ e.length ≤ 1048576
  · obtain ⟨hl1, hl2⟩ := hlen
    have hC : CodeOk c := ⟨hc, hl1⟩
    have hE : CodeOk e := ⟨he, hl2⟩
    have hD := G6 c hC
    have hD2 := ED e hE
    have hq := IX hC
    have hoth : ∀ s : Stor, s.disk.cells = (oP c).disk.cells → s.turn = (oP c).turn → Go.Pv.Good s → ∀ T : Nat, s.turn = T → nN T s.disk.cells := fun s h1 h2 g T hT => Lt hC.rd (p := 0) (by omega) h1 h2 g hT
    have hcr := NZ (b := cut e) (q := (cO (cut e) 0).2) hE.rd (by have := (xK (p := 0) hE.rd (by omega)).2; omega)
    rw [show nY (cut e) (cO (cut e) 0).2 = (uT e).2 from rfl] at hcr
    generalize oP c = Y at hD hq hoth
    generalize uT e = Y2 at hD2 hcr
    obtain ⟨⟨sc, sw, sr, sl⟩, st, sy, sn, sp⟩ := Y
    obtain ⟨d2, mask, cut, bytes⟩ := Y2
    dsimp only at hD hD2 hq hcr hoth
    obtain ⟨c1, c2, c3⟩ := hcr
    have q1 := hq.disk.cells
    have q2 := hq.disk.waits
    have q3 := hq.pages
    have q4 := hq.disk.room
    have q6 := hq.turn
    dsimp only at q1 q2 q3 q4 q6
    have hlf : 0 ≤ (e.length : Int).tmod 12 ∧ (e.length : Int).tmod 12 ≤ 11 := by rw [Int.tmod_eq_emod_of_nonneg (by omega)]; omega
    obtain ⟨lf, hlfe⟩ : ∃ lf, lf = (e.length : Int).tmod 12 := ⟨_, rfl⟩
    rw [← hlfe] at hlf
    obtain ⟨s, hs⟩ : ∃ s : Stor, s = ⟨⟨sc, sw, sr, lf⟩, st, sy, sn, sp⟩ := ⟨_, rfl⟩
    have p1 : s.disk.cells.length ≤ 42 := by rw [hs]; exact q1
    have p2 : s.disk.waits.length ≤ 102 := by rw [hs]; exact q2
    have p3 : s.pages.length = 20 := by rw [hs]; exact q3
    have p4 : s.disk.room = sr := by rw [hs]
    have p5 : s.disk.left = lf := by rw [hs]
    have p6 : s.turn = st := by rw [hs]
    have hsp : s.pages = sp := by rw [hs]
    have hot2 := hoth s (by rw [hs]) (by rw [hs])
    have hI := nM (Ee s (by omega) (by omega) (by omega) (by omega) (by omega))
    have hS := Bg s (by omega) (by omega) (by omega) (by omega) (by omega)
    have hb := Kr (s := s) (by omega) (by omega)
    have hv : aN s = .agg [.val sc.length (sc.map vS), .val sw.length (sw.flatMap cWt), vI sr, vI lf, vI st, vI sy, vI sn, .val sp.length (sp.map vS)] := by rw [hs]
    rw [hv, hlfe] at hI hS
    have hcode : ¬ (fM (ag s) s).2 = 1 → ag s = true := fun h => by
      cases hk : ag s with
      | true => rfl
      | false => rw [hk] at h; exact absurd rfl h
    have hlaw : ag s = true → 0 ≤ mask → ∃ y, ai (dH (fM (ag s) s).1.disk mask cut bytes) = (y, true) ∧ y.pages = s.pages := fun hk hm => by
      have g := bG hk
      have ht := g.turn
      have hT : s.turn = ((s.turn.toNat : Nat) : Int) := by omega
      rw [gm hk]
      exact Bh hk hT (hot2 g _ hT) hm
    obtain ⟨⟨x, n⟩, hR⟩ : ∃ R, R = fM (ag s) s := ⟨_, rfl⟩
    rw [← hR] at hI hS hb hcode hlaw
    dsimp only at hI hS hb hcode hlaw
    have hJ := iR x x (by omega) (by omega) (by omega) (by omega) (by omega) (by omega)
    rw [decide_eq_true rfl] at hJ
    by_cases hn : n = 1
    · subst hn
      refine stO Tryz.func8 [.tmp 4] 91 rfl rfl rfl ?_
      repeat' first | refine sS ?_ | ((with_reducible show aC ..); first | refine cF rfl rfl rfl rfl hJ ?_ | refine cR rfl rfl rfl rfl hD ?_ | refine cR rfl rfl rfl rfl hD2 ?_ | refine cR rfl rfl rfl rfl hI ?_ | refine cR rfl rfl rfl rfl hS ?_) | refine sO (fun K' hK' => ?_) | refine sY ?_ | (refine sI (fun hg => ?_) (fun hg K' hK' => ?_) <;> try exact sZ hg) | (refine sE hK' ?_; clear hK') | (refine sD (fun hc => ?_) (fun hc => ?_) <;> try exact sZ hc) | refine sU ?_ ?_ | exact sX | ((with_reducible first | refine En.ret ?_ | refine En.normal ?_); simp only [go_sem, Nat.reduceAdd, Nat.reduceMul]) | (simp only [go_sem, Nat.reduceAdd, Nat.reduceMul, Nat.reduceEqDiff, Nat.reduceLT, Nat.reduceLeDiff, decide_true, Bool.not_true]; (all_goals fail_if_success show False)) | fail
      all_goals exact Out.flat' rfl
    · have en : decide (n = 1) = false := decide_eq_false hn
      by_cases hm : mask < 0
      · have em : decide (mask < 0) = true := decide_eq_true hm
        refine stO Tryz.func8 [.tmp 4] 91 rfl rfl rfl ?_
        repeat' first | refine sS ?_ | ((with_reducible show aC ..); first | refine cF rfl rfl rfl rfl hJ ?_ | refine cR rfl rfl rfl rfl hD ?_ | refine cR rfl rfl rfl rfl hD2 ?_ | refine cR rfl rfl rfl rfl hI ?_ | refine cR rfl rfl rfl rfl hS ?_) | refine sO (fun K' hK' => ?_) | (refine sI (fun hg => ?_) (fun hg K' hK' => ?_) <;> try exact sZ hg) | (refine sE hK' ?_; clear hK') | (refine sD (fun hc => ?_) (fun hc => ?_) <;> try exact sZ hc) | refine sU ?_ ?_ | exact sX | ((with_reducible first | refine En.ret ?_ | refine En.normal ?_); simp only [go_sem, Nat.reduceAdd, Nat.reduceMul]) | (simp only [go_sem, Nat.reduceAdd, Nat.reduceMul, Nat.reduceEqDiff, Nat.reduceLT, Nat.reduceLeDiff, en, em, decide_true, Bool.not_true]; (all_goals fail_if_success show False)) | fail
        all_goals exact Out.flat' rfl
      · have em : decide (mask < 0) = false := decide_eq_false hm
        obtain ⟨y, r1, r2⟩ := hlaw (hcode hn) (by omega)
        have hK := Hf x.disk mask cut bytes (by omega) (by omega) (by omega) (by omega)
        obtain ⟨n1, n2⟩ := Hg x.disk mask cut bytes
        have hY := wS (gU (dH x.disk mask cut bytes) (by omega) (by omega))
        rw [iY, r1] at hY
        dsimp only at hY
        have hT1 := dW y.pages s.pages (by rw [r2]; omega) (by omega)
        rw [decide_eq_true r2, hsp] at hT1
        generalize dH x.disk mask cut bytes = Dc at hK hY
        refine stO Tryz.func8 [.tmp 4] 91 rfl rfl rfl ?_
        repeat' first | refine sS ?_ | ((with_reducible show aC ..); first | refine cF rfl rfl rfl rfl hJ ?_ | refine cF rfl rfl rfl rfl hT1 ?_ | refine cR rfl rfl rfl rfl hD ?_ | refine cR rfl rfl rfl rfl hD2 ?_ | refine cR rfl rfl rfl rfl hI ?_ | refine cR rfl rfl rfl rfl hS ?_ | refine cR rfl rfl rfl rfl hK ?_ | refine cR rfl rfl rfl rfl hY ?_) | refine sO (fun K' hK' => ?_) | (refine sI (fun hg => ?_) (fun hg K' hK' => ?_) <;> try exact sZ hg) | (refine sE hK' ?_; clear hK') | (refine sD (fun hc => ?_) (fun hc => ?_) <;> try exact sZ hc) | refine sU ?_ ?_ | exact sX | ((with_reducible first | refine En.ret ?_ | refine En.normal ?_); simp only [go_sem, Nat.reduceAdd, Nat.reduceMul]) | (simp only [go_sem, Nat.reduceAdd, Nat.reduceMul, Nat.reduceEqDiff, Nat.reduceLT, Nat.reduceLeDiff, en, em, decide_true, Bool.not_true]; (all_goals fail_if_success show False)) | fail
        all_goals exact Out.flat' rfl
  · refine stO Tryz.func8 [.tmp 4] 91 rfl rfl rfl ?_
    repeat' first | refine sS ?_ | refine sO (fun K' hK' => ?_) | refine sY ?_ | (refine sI (fun hg => ?_) (fun hg K' hK' => ?_) <;> try exact sZ hg) | (refine sE hK' ?_; clear hK') | (refine sD (fun hc => ?_) (fun hc => ?_) <;> try exact sZ hc) | ((with_reducible first | refine En.ret ?_ | refine En.normal ?_); simp only [go_sem]) | (simp only [go_sem]; (all_goals fail_if_success show False)) | fail
    all_goals exact Out.flat' rfl
end Go.Proofs.YtknciobaifdafaaGreatDoor.T
