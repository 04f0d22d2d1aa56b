/- The store's data and what its texts are, with no program in sight. -/
import Derived.Lib.AtoiAll
import Derived.Lib.Split
import Derived.Lib.Join
import Derived.Lib.Strings
import Derived.Lib.IndexMore
import Derived.Lib.ItoaNum
import Derived.Test.YtknciobaifdafaaGreatDoorQF
import Derived.Test.YtknciobaifdafaaGreatDoorQC
set_option linter.unusedVariables false
set_option linter.unusedSimpArgs false
namespace Go.Pv
structure Wt where
  cell : Int
  text : ByteArray
deriving DecidableEq
structure Dk where
  cells : List ByteArray
  waits : List Wt
  room : Int
  left : Int
deriving DecidableEq
structure Stor where
  disk : Dk
  turn : Int
  tries : Int
  next : Int
  pages : List ByteArray
deriving DecidableEq
def ofL (l : List UInt8) : ByteArray := ⟨l.toArray⟩
def aI (n : Int) : ByteArray := ⟨(Lib.itoa n).toArray⟩
def cutB (s sep : ByteArray) : ByteArray × ByteArray × Bool := (⟨(Lib.cut s.data.toList sep.data.toList).1.toArray⟩, ⟨(Lib.cut s.data.toList sep.data.toList).2.1.toArray⟩, (Lib.cut s.data.toList sep.data.toList).2.2)
def trimB (s p : ByteArray) : ByteArray := ⟨(Lib.trimPrefix s.data.toList p.data.toList).toArray⟩
def jA (s sep : ByteArray) : List ByteArray := Lib.splitB sep 0 (Lib.countB s sep) s
def BM (l : List ByteArray) (sep : ByteArray) : ByteArray := ⟨(Lib.join (l.map (·.data.toList)) sep.data.toList).toArray⟩
def badI (s : ByteArray) : Int := match Lib.atoiAll s.data.toList with | .range => Lib.atoiSat s.data.toList | _ => 0
def numI (s : ByteArray) : Int := match Lib.atoiAll s.data.toList with | .ok v => v | _ => -1
def au (n : Int) : Int := if 0 < n then n - 1 else n
def wtOk (x : Wt) : Bool := decide (0 ≤ x.cell ∧ x.cell ≤ 41) && decide (x.text.size ≤ 1200)
def gJ (last : Bool) : ByteArray := if last then ⟨#[33]⟩ else ⟨#[45]⟩
def jc (c : UInt8) : Bool := decide (48 ≤ c.toNat ∧ c.toNat ≤ 57)
def valL (l : List UInt8) : Nat := l.foldl (fun n c => n * 10 + (c.toNat - 48)) 0
def numL (l : List UInt8) : Int := if l.all jc = true ∧ l.length ≤ 9 ∧ l ≠ [] ∧ (1 < l.length → l.getD 0 0 ≠ 48) then valL l else -1
def jW (b : UInt8) : Nat → List UInt8 → List UInt8 → List (List UInt8)
  | _, cur, [] => [cur]
  | 0, cur, l => [cur ++ l]
  | k + 1, cur, c :: l => if c = b then cur :: jW b k [] l else jW b (k + 1) (cur ++ [c]) l
def cutL (s : ByteArray) (b : UInt8) (most : Nat) : List ByteArray := (jW b most [] s.data.toList).map ofL
theorem xm (l : List UInt8) (c : UInt8) : valL (l ++ [c]) = valL l * 10 + (c.toNat - 48) := by simp [valL]
theorem Jh : ∀ (l : List UInt8), l.all jc = true → valL l < 10 ^ l.length := by
  intro l
  have key : ∀ (k : Nat) (l : List UInt8), l.length = k → l.all jc = true → valL l < 10 ^ k := by
    intro k
    induction k with
    | zero => intro l hl _; rw [List.eq_nil_of_length_eq_zero hl]; simp [valL]
    | succ k ih =>
      intro l hl h
      have hne : l ≠ [] := by intro e; subst e; simp at hl
      rw [← List.dropLast_concat_getLast hne] at h ⊢
      simp only [List.all_append, List.all_cons, List.all_nil, Bool.and_true, Bool.and_eq_true] at h
      rw [xm]
      have h1 := ih l.dropLast (by simp [hl]) h.1
      have h2 : jc (l.getLast hne) = true := h.2
      simp only [jc, decide_eq_true_eq] at h2
      rw [Nat.pow_succ]
      omega
  exact fun h => key _ l rfl h
theorem Fj {l : List UInt8} {i : Nat} (hi : i < l.length) (h : jc (l.getD i 0) = false) : numL l = -1 := by
  unfold numL
  rw [if_neg]
  rintro ⟨h1, -⟩
  have := List.all_eq_true.1 h1 (l.getD i 0) (by rw [List.getD_eq_getElem?_getD, List.getElem?_eq_getElem hi]; exact List.getElem_mem hi)
  rw [h] at this
  cases this
theorem JX {l : List UInt8} (h : 9 < l.length) : numL l = -1 := by
  unfold numL
  rw [if_neg]
  rintro ⟨-, h1, -⟩
  omega
theorem Be {l : List UInt8} {i : Nat} (hi : i < l.length) (h : (l.take i).all jc = true) (hd : jc (l.getD i 0) = true) : (l.take (i + 1)).all jc = true ∧ valL (l.take (i + 1)) = valL (l.take i) * 10 + ((l.getD i 0).toNat - 48) := by
  have e : l.take (i + 1) = l.take i ++ [l.getD i 0] := by
    rw [List.take_add_one, List.getElem?_eq_getElem hi, List.getD_eq_getElem?_getD, List.getElem?_eq_getElem hi]
    rfl
  rw [e]
  exact ⟨by rw [List.all_append, h, List.all_cons, hd]; rfl, xm _ _⟩
theorem gK (a : Array UInt8) : (ByteArray.mk a).size = a.size := rfl
theorem bT (n : Int) (h0 : -9223372036854775808 ≤ n) (h1 : n ≤ 9223372036854775807) : (aI n).size ≤ 20 := by
  have key : ∀ k : Nat, ∀ u : Nat, u < 10 ^ (k + 1) → Lib.nDigits u ≤ k + 1 := by
    intro k
    induction k with
    | zero => intro u hu; rw [Lib.nDigits_small (by omega)]; omega
    | succ k ih =>
      intro u hu
      rw [Lib.nDigits]
      split
      · omega
      · have := ih (u / 10) (by rw [Nat.pow_succ] at hu; omega)
        omega
  have hd : ∀ u : Nat, u ≤ 9223372036854775808 → (Lib.decDigits u).length ≤ 19 := fun u hu => by rw [Lib.decDigits_length]; exact key 18 u (by omega)
  unfold aI Lib.itoa
  show (if n < 0 then 45 :: Lib.decDigits n.natAbs else Lib.decDigits n.toNat).toArray.size ≤ 20
  split
  · have := hd n.natAbs (by omega)
    simp; omega
  · have := hd n.toNat (by omega)
    simp; omega
theorem JY {n : Int} (h : n < 0) : aI n = (⟨#[45]⟩ : ByteArray) ++ aI (-n) := by
  unfold aI Lib.itoa
  rw [if_pos h, if_neg (by omega)]
  apply ByteArray.ext
  rw [ByteArray.data_append]
  apply Array.ext'
  rw [Array.toList_append, show (-n).toNat = n.natAbs by omega]
  rfl
def wt0 : Wt := ⟨0, ByteArray.empty⟩
def headB (n : Int) : ByteArray := ⟨#[72]⟩ ++ aI n ++ ⟨#[46]⟩ ++ aI n ++ ⟨#[59]⟩
def dU (turn tries place cell : Int) (last : Bool) (n : Nat) : ByteArray :=
  aI turn ++ ⟨#[32]⟩ ++ aI tries ++ ⟨#[32]⟩ ++ aI place ++ ⟨#[32]⟩ ++ aI cell ++ ⟨#[32]⟩ ++ gJ last ++ ⟨#[32]⟩ ++ aI n
def di (turn tries place cell : Int) (last : Bool) (text : ByteArray) : ByteArray :=
  dU turn tries place cell last text.size ++ ⟨#[58]⟩ ++ text ++ ⟨#[58]⟩ ++ aI turn ++ ⟨#[46]⟩ ++ aI tries ++ ⟨#[59]⟩
structure Fr where
  turn : Int
  tries : Int
  place : Int
  cell : Int
  last : Bool
  text : ByteArray
deriving DecidableEq
def frOf (f : Fr) : ByteArray := di f.turn f.tries f.place f.cell f.last f.text
theorem oZ (a b c d e f : ByteArray) : BM [a, b, c, d, e, f] ⟨#[32]⟩ = a ++ ⟨#[32]⟩ ++ b ++ ⟨#[32]⟩ ++ c ++ ⟨#[32]⟩ ++ d ++ ⟨#[32]⟩ ++ e ++ ⟨#[32]⟩ ++ f := by
  unfold BM
  apply ByteArray.ext
  apply Array.ext'
  simp [Lib.join, List.intercalate, ByteArray.data_append]
theorem oz {b : UInt8} : ∀ (l : List UInt8) (k : Nat) (cur : List UInt8), 0 < (jW b k cur l).length ∧ ∀ x ∈ jW b k cur l, x.length ≤ cur.length + l.length
  | [], k, cur => by simp [jW]
  | c :: l, 0, cur => by simp [jW]
  | c :: l, k + 1, cur => by
    simp only [jW]
    split
    · refine ⟨by simp, fun x hx => ?_⟩
      cases hx with
      | head => simp
      | tail _ hx => have := (oz l k []).2 x hx; simp at this ⊢; omega
    · refine ⟨(oz l (k + 1) _).1, fun x hx => ?_⟩
      have := (oz l (k + 1) _).2 x hx
      simp at this ⊢; omega
theorem zq (s : ByteArray) (b : UInt8) (k : Nat) : 0 < (cutL s b k).length := by unfold cutL; rw [List.length_map]; exact (oz _ _ _).1
theorem qU (s : ByteArray) (b : UInt8) (k j : Nat) : ((cutL s b k).getD j ByteArray.empty).size ≤ s.size := by
  rw [List.getD_eq_getElem?_getD]
  cases h : (cutL s b k)[j]? with
  | none => exact Nat.zero_le _
  | some x =>
    have hx := List.mem_of_getElem? h
    unfold cutL at hx
    obtain ⟨y, hy, rfl⟩ := List.mem_map.1 hx
    have := (oz s.data.toList k []).2 y hy
    have e : (ofL y).size = y.length := by show y.toArray.size = _; simp
    have hz : s.data.toList.length = s.size := rfl
    simp only [Option.getD_some, List.length_nil] at this ⊢
    omega
def sizes6 (l : List ByteArray) : Nat := (l.getD 0 ByteArray.empty).size + (l.getD 1 ByteArray.empty).size + (l.getD 2 ByteArray.empty).size + (l.getD 3 ByteArray.empty).size + (l.getD 4 ByteArray.empty).size + (l.getD 5 ByteArray.empty).size + 6
def numAt (l : List ByteArray) (k : Nat) : Int := numL (l.getD k ByteArray.empty).data.toList
def partsOf (s : ByteArray) : List ByteArray := cutL ((cutL s 58 1).getD 0 ByteArray.empty) 32 5
def getL (s : ByteArray) (turn place : Int) (l : List ByteArray) : Int × Bool × Wt :=
  if l.length ≠ 6 then (0, false, wt0)
  else if ¬ (1 ≤ numAt l 1 ∧ numAt l 1 ≤ 99) ∨ ¬ (0 ≤ numAt l 3 ∧ numAt l 3 ≤ 19) ∨ ¬ (0 ≤ numAt l 5 ∧ numAt l 5 ≤ 1100) ∨ (s.size : Int) < sizes6 l + numAt l 5 then (0, false, wt0)
  else if di turn (numAt l 1) place (numAt l 3) (decide (l.getD 4 ByteArray.empty = ⟨#[33]⟩)) (s.extract (sizes6 l) (sizes6 l + (numAt l 5).toNat)) ≠ s then (0, false, wt0)
  else (numAt l 1, decide (l.getD 4 ByteArray.empty = ⟨#[33]⟩), ⟨numAt l 3, s.extract (sizes6 l) (sizes6 l + (numAt l 5).toNat)⟩)
def fK (s : ByteArray) (turn place : Int) : Int × Bool × Wt := getL s turn place (partsOf s)
theorem zt (s sep : ByteArray) : (cutB s sep).1.size ≤ s.size := by
  show (Lib.cut s.data.toList sep.data.toList).1.toArray.size ≤ s.data.toList.length
  unfold Lib.cut
  split <;> simp
  exact Nat.min_le_right ..
theorem H7 (s sep : ByteArray) : (cutB s sep).2.1.size ≤ s.size := by
  show (Lib.cut s.data.toList sep.data.toList).2.1.toArray.size ≤ s.data.toList.length
  unfold Lib.cut
  split <;> simp
theorem zu (s p : ByteArray) : (trimB s p).size ≤ s.size := by
  have := Lib.trimPrefix_le s.data.toList p.data.toList
  show (Lib.trimPrefix s.data.toList p.data.toList).toArray.size ≤ s.data.toList.length
  simpa using this
theorem xR (sep : ByteArray) : ∀ (k : Nat) (s x : ByteArray), x ∈ Lib.splitB sep 0 k s → x.size ≤ s.size
  | 0, s, x, h => by rw [Lib.splitB_zero] at h; rw [List.mem_singleton.1 h]; exact Nat.le_refl _
  | k + 1, s, x, h => by
    unfold Lib.splitB at h
    split at h
    · rw [List.mem_singleton.1 h]; exact Nat.le_refl _
    · rcases List.mem_cons.1 h with rfl | h
      · rw [ByteArray.size_extract]; omega
      · have := xR sep k _ x h
        rw [ByteArray.size_extract] at this
        omega
theorem Fp (s sep : ByteArray) (k : Nat) : ((jA s sep).getD k ByteArray.empty).size ≤ s.size := by
  rw [List.getD_eq_getElem?_getD]
  cases h : (jA s sep)[k]? with
  | none => exact Nat.zero_le _
  | some x => exact xR _ _ _ _ (List.mem_of_getElem? h)
def fr0 : Fr := ⟨0, 0, 0, 0, false, ByteArray.empty⟩
def frL (s rest : ByteArray) (place : Int) (w : List ByteArray) : Fr × Bool :=
  if w.length ≠ 6 then (fr0, false)
  else if ¬ (1 ≤ numI (w.getD 0 ByteArray.empty) ∧ numI (w.getD 0 ByteArray.empty) ≤ 99999) ∨ ¬ (1 ≤ numI (w.getD 1 ByteArray.empty) ∧ numI (w.getD 1 ByteArray.empty) ≤ 99) ∨ numI (w.getD 2 ByteArray.empty) ≠ place ∨
    ¬ (0 ≤ numI (w.getD 3 ByteArray.empty) ∧ numI (w.getD 3 ByteArray.empty) ≤ 19) ∨ ¬ (0 ≤ numI (w.getD 5 ByteArray.empty) ∧ numI (w.getD 5 ByteArray.empty) ≤ 1100 ∧ numI (w.getD 5 ByteArray.empty) ≤ rest.size) then (fr0, false)
  else
    (⟨numI (w.getD 0 ByteArray.empty), numI (w.getD 1 ByteArray.empty), numI (w.getD 2 ByteArray.empty), numI (w.getD 3 ByteArray.empty), decide (w.getD 4 ByteArray.empty = ⟨#[33]⟩), rest.extract 0 (numI (w.getD 5 ByteArray.empty)).toNat⟩,
      decide (frOf ⟨numI (w.getD 0 ByteArray.empty), numI (w.getD 1 ByteArray.empty), numI (w.getD 2 ByteArray.empty), numI (w.getD 3 ByteArray.empty), decide (w.getD 4 ByteArray.empty = ⟨#[33]⟩), rest.extract 0 (numI (w.getD 5 ByteArray.empty)).toNat⟩ = s))
def jG (s : ByteArray) (place : Int) : Fr × Bool := frL s (cutB s ⟨#[58]⟩).2.1 place (jA (cutB s ⟨#[58]⟩).1 ⟨#[32]⟩)
def BN (s : ByteArray) (place n : Int) : Int := if 1 ≤ n ∧ n ≤ 99999 ∧ n.tmod 2 = place ∧ headB n = s then n else 0
def aA (s : ByteArray) (place : Int) : Int := if 2 ≤ s.size ∧ s.data.toList.getD 0 0 = 72 then BN s place (numL ((cutL (s.extract 1 s.size) 46 1).getD 0 ByteArray.empty).data.toList) else 0
def BO (s : ByteArray) (n : Int) : Int := if 1 ≤ n ∧ n ≤ 99999 ∧ headB n = s then n else 0
def jH (s : ByteArray) : Int := BO s (numI (cutB (trimB s ⟨#[72]⟩) ⟨#[46]⟩).1)
def gOf (c : List ByteArray) (turn : Int) (n : Nat) : Int × Bool × Wt := fK (c.getD (22 + n) ByteArray.empty) turn n
def aY (g : Nat → Int × Bool × Wt) (above : Int) : Nat → Nat → Int → List Wt → Int × Int × List Wt
  | 0, _, _, _ => (0, 0, [])
  | k + 1, n, own, out =>
    if (g n).1 ≤ above ∨ (0 < own ∧ (g n).1 ≠ own) then (0, 0, [])
    else if (g n).2.1 = true then ((out.length : Int) + 1, (g n).1, out ++ [(g n).2.2])
    else aY g above k (n + 1) (g n).1 (out ++ [(g n).2.2])
def aj (l : List ByteArray) (ws : List Wt) : List ByteArray := ws.foldl (fun out x => out.set x.cell.toNat x.text) l
def trL (g : Nat → Int × Bool × Wt) : Nat → Int
  | 0 => 0
  | n + 1 => max (trL g n) (g n).1
def dL (f : Nat → Bool) : Nat → Bool
  | 0 => false
  | n + 1 => dL f n || f n
theorem kJ {f : Nat → Bool} : ∀ {n k : Nat}, k < n → f k = true → dL f n = true
  | 0, _, h, _ => absurd h (Nat.not_lt_zero _)
  | n + 1, k, h, hf => by
    unfold dL
    by_cases e : k = n
    · subst e; rw [hf, Bool.or_true]
    · rw [kJ (by omega) hf, Bool.true_or]
def vM (c : List ByteArray) (n : Nat) : Int := numL ((cutL (c.getD (22 + n) ByteArray.empty) 32 1).getD 0 ByteArray.empty).data.toList
def lK (c : List ByteArray) (turn : Int) (n : Nat) : Bool := decide (0 < (fK (c.getD (22 + n) ByteArray.empty) (vM c n) n).1 ∧ turn < vM c n ∧ vM c n ≤ 99999)
theorem OA (l : List UInt8) : -1 ≤ numL l ∧ numL l ≤ 999999999 := by
  unfold numL
  split
  · rename_i h
    have h1 := Jh l h.1
    have h2 : 10 ^ l.length ≤ 10 ^ 9 := Nat.pow_le_pow_right (by omega) h.2.1
    omega
  · omega
def dkOk (d : Dk) : Bool := decide (d.cells.length = 42 ∧ d.waits.length ≤ 100 ∧ -1 ≤ d.room ∧ -1 ≤ d.left) && d.cells.all (fun s => decide (s.size ≤ 1200)) && d.waits.all wtOk
end Go.Pv
set_option linter.unusedVariables false
set_option linter.unusedSimpArgs false
namespace Go.Pv
abbrev vI (n : Int) : PV := .b (.int .i64 n)
abbrev vB (b : Bool) : PV := .b (.bool b)
abbrev cWt (x : Wt) : List PV := [vI x.cell, vS x.text]
abbrev vWt (x : Wt) : PV := .agg [vI x.cell, vS x.text]
abbrev vWts (l : List Wt) : PV := .val l.length (l.flatMap cWt)
abbrev vDk (d : Dk) : PV := .agg [.val d.cells.length (d.cells.map vS), .val d.waits.length (d.waits.flatMap cWt), vI d.room, vI d.left]
abbrev aN (s : Stor) : PV := .agg [.val s.disk.cells.length (s.disk.cells.map vS), .val s.disk.waits.length (s.disk.waits.flatMap cWt), vI s.disk.room, vI s.disk.left, vI s.turn, vI s.tries, vI s.next, .val s.pages.length (s.pages.map vS)]
theorem JZ {n k : Nat} (h : (n : Int) ≤ 9223372036854775807) : IntKind.i64.wrap ((n : Int).tdiv k) = ((n / k : Nat) : Int) := by
  have e : (n : Int).tdiv k = ((n / k : Nat) : Int) := by rw [Int.tdiv_eq_ediv_of_nonneg (by omega)]; simp
  have hle : n / k ≤ n := Nat.div_le_self ..
  generalize n / k = q at e hle
  rw [e, af (by omega) (by omega)]
theorem Fq {n : Nat} (h : n < 10) : aI n = ofInts [((48 + n : Nat) : Int)] := by
  unfold aI Lib.itoa
  rw [if_neg (by omega), Int.toNat_natCast, Lib.decDigits_one h]
  rfl
theorem H8 {n : Nat} (h : n < 256) : IntKind.u8.wrap n = n := by
  have : IntKind.u8.wrap (n : Int) = (n : Int) % 256 := by simp [IntKind.wrap, IntKind.bits, IntKind.signed]
  omega
theorem Fv (l : List Int) : (ofInts l).size = l.length := by
  have key : ∀ (l : List Int) (b : ByteArray), (l.foldl (fun r n => r.push (UInt8.ofNat n.toNat)) b).size = b.size + l.length := by
    intro l
    induction l with
    | nil => intro b; rfl
    | cons x l ih => intro b; rw [List.foldl_cons, ih, ByteArray.size_push, List.length_cons]; omega
  have := key l ByteArray.empty
  unfold ofInts
  simpa using this
theorem H9 {n : Nat} (h : 10 ≤ n) : aI n = aI (n / 10 : Nat) ++ ofInts [((48 + n % 10 : Nat) : Int)] := by
  unfold aI Lib.itoa
  rw [if_neg (by omega), if_neg (by omega), Int.toNat_natCast, Int.toNat_natCast, Lib.decDigits, dif_neg (by omega)]
  apply ByteArray.ext
  rw [ByteArray.data_append]
  have e : ((48 + n % 10 : Nat) : Int).toNat = 48 + n % 10 := Int.toNat_natCast _
  simp only [ofInts, List.foldl_cons, List.foldl_nil, e]
  apply Array.ext'
  rw [Array.toList_append]
  rfl
variable {P : Program}
theorem bu {n : Nat} {l : List Wt} : Cln P (.val n (l.flatMap cWt)) := Cln.val (by
  intro x hx
  simp only [List.mem_flatMap, List.mem_cons, List.not_mem_nil, or_false] at hx
  obtain ⟨_, _, rfl | rfl⟩ := hx <;> exact Cln.b _)
def Flat (P : Program) (xs : List PV) : Prop := ∀ x ∈ xs, Cln P x ∧ ((∃ v, x = .b v) ∨ ∃ n ys, x = .val n ys)
theorem dE {v : Value} : Cln P (.b v) ∧ ((∃ u, PV.b v = .b u) ∨ ∃ n ys, PV.b v = .val n ys) := ⟨Cln.b v, .inl ⟨v, rfl⟩⟩
theorem bn {l : List ByteArray} : Flat P (l.map vS) := fun x hx => by
  simp only [List.mem_map] at hx
  obtain ⟨y, _, rfl⟩ := hx
  exact dE
theorem bJ {l : List Wt} : Flat P (l.flatMap cWt) := fun x hx => by
  simp only [List.mem_flatMap, List.mem_cons, List.not_mem_nil, or_false] at hx
  obtain ⟨_, _, rfl | rfl⟩ := hx <;> exact dE
theorem flat_nil : Flat P [] := fun x hx => by cases hx
theorem Flat.cons {x : PV} {xs : List PV} (h1 : Cln P x ∧ ((∃ v, x = .b v) ∨ ∃ n ys, x = .val n ys)) (h2 : Flat P xs) : Flat P (x :: xs) := fun y hy => by
  rcases List.mem_cons.1 hy with rfl | hy
  · exact h1
  · exact h2 y hy
theorem bf {n : Nat} {l : List ByteArray} : Cln P (.val n (l.map vS)) ∧ ((∃ v, PV.val n (l.map vS) = .b v) ∨ ∃ n' ys, PV.val n (l.map vS) = .val n' ys) := ⟨bi, .inr ⟨_, _, rfl⟩⟩
theorem bD {n : Nat} {l : List Wt} : Cln P (.val n (l.flatMap cWt)) ∧ ((∃ v, PV.val n (l.flatMap cWt) = .b v) ∨ ∃ n' ys, PV.val n (l.flatMap cWt) = .val n' ys) := ⟨bu, .inr ⟨_, _, rfl⟩⟩
theorem bC {κ : Nat → Option Nat} {mem : Mem} : ∀ {xs : List PV}, Flat P xs → All2 (vwC P κ mem) xs xs
  | [], _ => trivial
  | x :: xs, h => ⟨by
      obtain ⟨hc, ⟨v, rfl⟩ | ⟨n, ys, rfl⟩⟩ := h x (List.mem_cons_self ..)
      · exact LM v
      · exact ⟨hc, rfl⟩, bC fun y hy => h y (List.mem_cons_of_mem _ hy)⟩
theorem Flat.cln {xs : List PV} (h : Flat P xs) : ∀ x ∈ xs, Cln P x := fun x hx => (h x hx).1
theorem Weak.rows {R : Nat → Prop} {s t : St} (E : List Kept) (h1 : (E.map (·.old)).Nodup) (h2 : (E.map (·.new)).Nodup) (h3 : ∀ e ∈ E, s.mem e.old = .row e.t e.xs ∧ Flat P e.xs)
    (h4 : t.mem = keptMem E) (h5 : All2 (vw P (kap E) s.mem) s.tmps t.tmps) (hR : ∀ i, R i → kap E i = some i) : Weak P R s t :=
  Weak.intro E h1 h2 (fun e he => ⟨e.xs, (h3 e he).1, bC (h3 e he).2⟩) h4 h5 hR
theorem jB {l : List ByteArray} {k : Nat} (h : k < l.length) : l[k] = l.getD k ByteArray.empty := by simp [h]
theorem qV {l : List ByteArray} {k n : Nat} {z : Option (List Value)} {K : PV → Prop} (h : k < l.length) (hK : K (vS (l.getD k ByteArray.empty))) : fQ ⟨false, 1, n, z⟩ ((l.map vS).drop k) K :=
  vJ h (by rw [jB h]; exact hK)
theorem Fz {l : List Wt} {k n : Nat} {z : Option (List Value)} {K : PV → Prop} (h : k < l.length) (hK : K (vWt (l.getD k wt0))) : fQ ⟨true, 2, n, z⟩ ((l.flatMap cWt).drop (k * 2)) K :=
  E5 (g := cWt) (fun _ => rfl) h (by have e : l[k] = l.getD k wt0 := (by simp [h]); rw [e]; exact hK)
theorem Out.val {k n n' : Nat} {t : TypeId} {xs ys : List PV} {m : Mem} (hk : m k = .row t xs) (hf : Flat P xs) (hx : xs = ys) (hn : n = n') : Out P (.val n' ys) [] (.ref k 0 n) m := by
  subst hx; subst hn
  refine Weak.intro [] (by simp) (by simp) (by simp) rfl ⟨?_, trivial⟩ (fun _ h => h.elim)
  show vwC P (kap []) m (.ref k 0 n) (.val n xs)
  simp only [vwC, kap, hk, List.drop_zero]
  exact ⟨hf.cln, trivial⟩
theorem Out.val3 {a b : Int} {k n n' : Nat} {t : TypeId} {xs ys : List PV} {m : Mem} (hk : m k = .row t xs) (hf : Flat P xs) (hx : xs = ys) (hn : n = n') : Out P (.tup [vI a, vI b, .val n' ys]) [] (.tup [vI a, vI b, .ref k 0 n]) m := by
  subst hx; subst hn
  refine Weak.intro [] (by simp) (by simp) (by simp) rfl ⟨?_, trivial⟩ (fun _ h => h.elim)
  have e1 : ∀ z : Int, vwA P (kap []) m (vI z) (vI z) := fun z => LM (κ := kap []) (mem := m) (.int .i64 z)
  refine ⟨e1 a, e1 b, ?_, trivial⟩
  show vwC P (kap []) m (.ref k 0 n) (.val n xs)
  simp only [vwC, kap, hk, List.drop_zero]
  exact ⟨hf.cln, trivial⟩
theorem Ji {l : List Wt} : (l.flatMap cWt).length = l.length * 2 := by
  induction l with
  | nil => rfl
  | cons x l ih => simp only [List.flatMap_cons, List.length_append, ih, List.length_cons, List.length_nil]; omega
theorem Ia {l : List ByteArray} {n : Nat} {z : Option (List Value)} {K : PV → Prop} (h : 0 < l.length) (hK : K (vS (l.getD 0 ByteArray.empty))) : fQ ⟨false, 1, n, z⟩ (l.map vS) K := qV (k := 0) h hK
theorem J3 {l : List Wt} {n : Nat} {z : Option (List Value)} {K : PV → Prop} (h : 0 < l.length) (hK : K (vWt (l.getD 0 wt0))) : fQ ⟨true, 2, n, z⟩ (l.flatMap cWt) K := Fz (k := 0) h hK
theorem J4 {l : List ByteArray} : List.take l.length (List.map vS l) = List.map vS l := List.take_of_length_le (by simp)
theorem LX {l : List Wt} : List.take (l.length * 2) (List.flatMap cWt l) = List.flatMap cWt l := List.take_of_length_le (by rw [Ji]; exact Nat.le_refl _)
theorem LY {l : List ByteArray} : (List.map vS l).all storable = true := by
  simp only [List.all_map, List.all_eq_true]
  exact fun _ _ => rfl
theorem OB {l : List Wt} : (List.flatMap cWt l).all storable = true := by
  induction l with
  | nil => rfl
  | cons x l ih => rw [List.flatMap_cons, List.all_append, ih]; rfl
theorem HOk.err : HOk P .err := .inr (.inr Cln.err)
theorem dB {n : Nat} {l : List ByteArray} : HOk P (.val n (l.map vS)) := .inr (.inr bi)
theorem dF {n : Nat} {l : List Wt} : HOk P (.val n (l.flatMap cWt)) := .inr (.inr bu)
theorem kX : ∀ x ∈ ([] : List PV), Cln P x := fun x hx => by cases hx
theorem oC {k : Nat} {l : List ByteArray} : List.map (shC k) (List.map vS l) = List.map vS l := by
  rw [List.map_map]; rfl
theorem qW {k : Nat} {l : List Wt} : List.map (shC k) (List.flatMap cWt l) = List.flatMap cWt l := by
  induction l with
  | nil => rfl
  | cons x l ih => rw [List.flatMap_cons, List.map_append, ih]; rfl
end Go.Pv
set_option linter.unusedVariables false
set_option linter.unusedSimpArgs false
namespace Go.Pv
variable {P : Program}
theorem xn {n : Nat} {l : List Wt} : Cln P (.val n (l.flatMap cWt)) = True := eq_true bu
theorem dG {l : List Wt} {k : Nat} (h : k < l.length) : (l.flatMap cWt).drop (k * 2) = vI (l.getD k wt0).cell :: vS (l.getD k wt0).text :: (l.flatMap cWt).drop (k * 2 + 2) := by
  induction l generalizing k with
  | nil => exact absurd h (Nat.not_lt_zero _)
  | cons x l ih =>
    cases k with
    | zero => rfl
    | succ k =>
      have := ih (k := k) (by simpa using h)
      rw [show (k + 1) * 2 = k * 2 + 2 by omega]
      exact this
theorem vN {l : List Wt} {k n : Nat} {z : Option (List Value)} {K : PV → Prop} (h : k < l.length) (hK : K (vI (l.getD k wt0).cell)) : fQ ⟨false, 1, n, z⟩ ((l.flatMap cWt).drop (k * 2)) K := by
  rw [dG h, eH]; exact hK
theorem qX {l : List Wt} {k n : Nat} {z : Option (List Value)} {K : PV → Prop} (h : k < l.length) (hK : K (vS (l.getD k wt0).text)) : fQ ⟨false, 1, n, z⟩ (((l.flatMap cWt).drop (k * 2)).drop 1) K := by
  rw [dG h, List.drop_succ_cons, List.drop_zero, eH]; exact hK
theorem dm {l : List ByteArray} {k : Nat} {s : ByteArray} : (l.map vS).set k (vS s) = (l.set k s).map vS := by rw [List.map_set]
theorem iU {t : TypeId} {l : List ByteArray} : ∀ z ∈ ((t, l.map vS) : TypeId × List PV).2, HOk P z := fun z hz => by
  simp only [List.mem_map] at hz
  obtain ⟨y, _, rfl⟩ := hz
  exact HOk.b _
theorem jX {t : TypeId} {l : List Wt} : ∀ z ∈ ((t, l.flatMap cWt) : TypeId × List PV).2, HOk P z := fun z hz => by
  simp only [List.mem_flatMap, List.mem_cons, List.not_mem_nil, or_false] at hz
  obtain ⟨_, _, rfl | rfl⟩ := hz <;> exact HOk.b _
theorem iV : ∀ e ∈ ([] : List (TypeId × List PV)), ∀ z ∈ e.2, HOk P z := fun e he => by cases he
theorem dC {l : List Wt} : (∀ (z : PV) (x : Wt), x ∈ l → z = vI x.cell ∨ z = .b (.string x.text) → Cln P z) = True := eq_true fun z x _ h => by
  rcases h with rfl | rfl <;> exact Cln.b _
end Go.Pv
set_option linter.unusedVariables false
set_option linter.unusedSimpArgs false
namespace Go.Pv
def rdGo (g : Nat → Int × Bool × Wt) : Nat → Nat → Int → List ByteArray → Nat × List ByteArray
  | 0, next, _, pages => (next, pages)
  | k + 1, next, above, pages =>
    if 0 < (aY g above (20 - next) next 0 []).1 then rdGo g k (next + (aY g above (20 - next) next 0 []).1.toNat) (aY g above (20 - next) next 0 []).2.1 (aj pages (aY g above (20 - next) next 0 []).2.2)
    else (next, pages)
def bU : Stor := ⟨⟨[], [], 0, 0⟩, 0, 0, 0, []⟩
def ay (c : List ByteArray) : List ByteArray := (c.drop 2).take 20
def gQ (l : List ByteArray) : Bool := dL (fun k => decide (1100 < (l.getD k ByteArray.empty).size)) 20
def iC (d : Dk) (turn : Int) : Stor × Bool :=
  if turn = 0 ∨ dL (lK d.cells turn) 20 = true then (bU, false)
  else if gQ (rdGo (gOf d.cells turn) 21 0 0 (ay d.cells)).2 = true then (bU, false)
  else (⟨d, turn, trL (gOf d.cells turn) 20, (rdGo (gOf d.cells turn) 21 0 0 (ay d.cells)).1, (rdGo (gOf d.cells turn) 21 0 0 (ay d.cells)).2⟩, true)
def dN (d : Dk) : Stor × Bool := iC d (max (aA (d.cells.getD 0 ByteArray.empty) 0) (aA (d.cells.getD 1 ByteArray.empty) 1))
def ai (d : Dk) : Stor × Bool := if dkOk d = true ∧ d.waits.length = 0 then dN d else (bU, false)
def ag (s : Stor) : Bool := decide (dkOk s.disk = true ∧ s.disk.waits.length = 0 ∧ 0 ≤ s.tries ∧ s.tries ≤ 99 ∧ (dN s.disk).2 = true ∧ (dN s.disk).1.turn = s.turn ∧ (dN s.disk).1.next = s.next ∧ (dN s.disk).1.tries ≤ s.tries ∧ (dN s.disk).1.pages = s.pages)
theorem lw {g : Nat → Int × Bool × Wt} {above : Int} : ∀ (k n : Nat) (own : Int) (out : List Wt), 0 ≤ (aY g above k n own out).1 ∧ (aY g above k n own out).1 ≤ out.length + k ∧ ((aY g above k n own out).2.2.length : Int) = (aY g above k n own out).1
  | 0, n, own, out => by simp only [aY, List.length_nil]; omega
  | k + 1, n, own, out => by
    unfold aY
    split
    · simp only [List.length_nil]; omega
    · split
      · simp only [List.length_append, List.length_cons, List.length_nil]; omega
      · have := lw (g := g) (above := above) k (n + 1) (g n).1 (out ++ [(g n).2.2])
        simp only [List.length_append, List.length_cons, List.length_nil] at this
        omega
theorem xU {g : Nat → Int × Bool × Wt} {above : Int} (hg : ∀ n, 0 ≤ (g n).2.2.cell ∧ (g n).2.2.cell ≤ 19) : ∀ (k n : Nat) (own : Int) (out : List Wt), (∀ x ∈ out, 0 ≤ x.cell ∧ x.cell ≤ 19) → ∀ x ∈ (aY g above k n own out).2.2, 0 ≤ x.cell ∧ x.cell ≤ 19
  | 0, n, own, out, _ => by simp [aY]
  | k + 1, n, own, out, h => by
    have h' : ∀ x ∈ out ++ [(g n).2.2], 0 ≤ x.cell ∧ x.cell ≤ 19 := fun x hx => by
      rcases List.mem_append.1 hx with hx | hx
      · exact h x hx
      · rw [List.mem_singleton.1 hx]; exact hg n
    unfold aY
    split
    · simp
    · split
      · exact h'
      · exact xU hg k (n + 1) (g n).1 _ h'
theorem BP (c : List ByteArray) (turn : Int) (n : Nat) : 0 ≤ (gOf c turn n).2.2.cell ∧ (gOf c turn n).2.2.cell ≤ 19 := by
  unfold gOf fK getL
  split
  · simp [wt0]
  · split
    · simp [wt0]
    · split
      · simp [wt0]
      · dsimp only; omega
theorem o5 (c : List ByteArray) (turn : Int) (n : Nat) : 0 ≤ (gOf c turn n).1 ∧ (gOf c turn n).1 ≤ 99 := by
  unfold gOf fK getL
  split
  · simp
  · split
    · simp
    · split
      · simp
      · dsimp only; omega
theorem aQ (l : List ByteArray) (ws : List Wt) : (aj l ws).length = l.length := by
  unfold aj
  induction ws generalizing l with
  | nil => rfl
  | cons x ws ih => rw [List.foldl_cons, ih, List.length_set]
theorem qx (g : Nat → Int × Bool × Wt) : ∀ (k next : Nat) (above : Int) (pages : List ByteArray), (rdGo g k next above pages).2.length = pages.length
  | 0, _, _, _ => rfl
  | k + 1, next, above, pages => by
    unfold rdGo
    split
    · rw [qx g k, aQ]
    · rfl
theorem FB (d : Dk) : (dN d).1.pages.length ≤ 20 := by
  unfold dN iC
  split
  · exact Nat.zero_le _
  · split
    · exact Nat.zero_le _
    · dsimp only
      rw [qx]
      unfold ay
      rw [List.length_take]
      omega
theorem je (s : ByteArray) (place : Int) : 0 ≤ aA s place ∧ aA s place ≤ 99999 := by
  unfold aA BN
  split
  · split
    · omega
    · omega
  · omega
end Go.Pv
set_option linter.unusedVariables false
set_option linter.unusedSimpArgs false
namespace Go.Pv
variable {P : Program}
abbrev cFr (f : Fr) : List PV := [vI f.turn, vI f.tries, vI f.place, vI f.cell, vB f.last, vS f.text]
theorem zx {l : List Fr} {k : Nat} (h : k < l.length) : (l.flatMap cFr).drop (k * 6) = vI (l.getD k fr0).turn :: vI (l.getD k fr0).tries :: vI (l.getD k fr0).place :: vI (l.getD k fr0).cell :: vB (l.getD k fr0).last :: vS (l.getD k fr0).text :: (l.flatMap cFr).drop (k * 6 + 6) := by
  induction l generalizing k with
  | nil => exact absurd h (Nat.not_lt_zero _)
  | cons x l ih =>
    cases k with
    | zero => rfl
    | succ k =>
      have := ih (k := k) (by simpa using h)
      rw [show (k + 1) * 6 = k * 6 + 6 by omega]
      exact this
theorem J5 {l : List Fr} {k : Nat} (h : k ≤ l.length) : (l.flatMap cFr).drop (k * 6) = (l.drop k).flatMap cFr := by
  induction l generalizing k with
  | nil => simp
  | cons x l ih =>
    cases k with
    | zero => rfl
    | succ k =>
      rw [show (k + 1) * 6 = k * 6 + 6 by omega]
      exact ih (k := k) (by simpa using h)
theorem OC {l : List Fr} : (l.flatMap cFr).length = l.length * 6 := by
  induction l with
  | nil => rfl
  | cons x l ih => simp only [List.flatMap_cons, List.length_append, ih, List.length_cons, List.length_nil]; omega
theorem J6 {l : List Fr} {m : Nat} : (l.flatMap cFr).take (m * 6) = (l.take m).flatMap cFr := by
  induction l generalizing m with
  | nil => simp
  | cons x l ih =>
    cases m with
    | zero => rw [Nat.zero_mul]; rfl
    | succ m =>
      rw [show (m + 1) * 6 = m * 6 + 6 by omega, List.take_succ_cons, List.flatMap_cons, List.flatMap_cons, ← ih]
      rfl
theorem qY {n : Nat} {l : List Fr} : Cln P (.val n (l.flatMap cFr)) := Cln.val (by
  intro x hx
  simp only [List.mem_flatMap, List.mem_cons, List.not_mem_nil, or_false] at hx
  obtain ⟨_, _, rfl | rfl | rfl | rfl | rfl | rfl⟩ := hx <;> exact Cln.b _)
theorem J7 {n : Nat} {l : List Fr} : Cln P (.val n (l.flatMap cFr)) = True := eq_true qY
theorem zy {l : List Fr} : Flat P (l.flatMap cFr) := fun x hx => by
  simp only [List.mem_flatMap, List.mem_cons, List.not_mem_nil, or_false] at hx
  obtain ⟨_, _, rfl | rfl | rfl | rfl | rfl | rfl⟩ := hx <;> exact dE
def grpP (fs : List Fr) (turn above : Int) (place : Nat) : Nat → Nat → Nat
  | 0, _ => 0
  | k + 1, n =>
    if (fs.getD n fr0).turn ≠ turn ∨ (fs.getD n fr0).tries ≤ above ∨ (fs.getD n fr0).tries ≠ (fs.getD place fr0).tries then 0
    else if (fs.getD n fr0).last = true then n + 1 - place
    else grpP fs turn above place k (n + 1)
end Go.Pv
set_option linter.unusedVariables false
set_option linter.unusedSimpArgs false
namespace Go.Pv
open Go.Lib
def Free (b : UInt8) (x : List UInt8) : Prop := ∀ c ∈ x, c ≠ b
theorem Free.tail {b c : UInt8} {x : List UInt8} (h : Free b (c :: x)) : Free b x := fun d hd => h d (List.mem_cons_of_mem _ hd)
theorem iW {b : UInt8} {y : List UInt8} (k : Nat) : ∀ {x : List UInt8} (cur : List UInt8), Free b x → jW b (k + 1) cur (x ++ b :: y) = (cur ++ x) :: jW b k [] y
  | [], cur, _ => by simp [jW]
  | c :: x, cur, h => by
    rw [List.cons_append, jW, if_neg (h c (List.mem_cons_self ..)), iW k _ h.tail]
    simp
theorem Ib {b : UInt8} {cur : List UInt8} : ∀ {x : List UInt8}, jW b 0 cur x = [cur ++ x]
  | [] => by simp [jW]
  | c :: x => rfl
theorem index_hit {b : UInt8} {y : List UInt8} : ∀ {x : List UInt8}, Free b x → index (x ++ b :: y) [b] = x.length
  | [], _ => by simp [index, List.isPrefixOf]
  | c :: x, h => by
    have hne : (b == c) = false := by rw [beq_eq_false_iff_ne]; exact fun e => h c (List.mem_cons_self ..) e.symm
    have ih := index_hit (y := y) h.tail
    rw [List.cons_append, index, ih]
    simp only [List.isPrefixOf, hne, Bool.false_and, List.length_cons]
    rw [if_neg (by simp), if_neg (by simp)]
    omega
theorem um {b : UInt8} : ∀ {x : List UInt8}, Free b x → index x [b] = -1
  | [], _ => rfl
  | c :: x, h => by
    have hne : (b == c) = false := by rw [beq_eq_false_iff_ne]; exact fun e => h c (List.mem_cons_self ..) e.symm
    rw [index, um h.tail]
    simp [List.isPrefixOf, hne]
theorem Jj {b : UInt8} {x y : List UInt8} (h : Free b x) : Lib.cut (x ++ b :: y) [b] = (x, y, true) := by
  unfold Lib.cut
  rw [index_hit h, if_pos (by omega)]
  simp
theorem jf {b : UInt8} {x y : List UInt8} (h : Free b x) (f : Nat) : countFrom [b] (f + 1) (x ++ b :: y) = 1 + countFrom [b] f y := by
  rw [countFrom, index_hit h, if_neg (by simp)]
  simp
theorem zA {b : UInt8} {x : List UInt8} (h : Free b x) (f : Nat) : countFrom [b] f x = 0 := by
  cases f with
  | zero => rfl
  | succ f => rw [countFrom, um h]; rfl
theorem mi {b : UInt8} {x y : List UInt8} (h : Free b x) (k : Nat) : splitK [b] 0 (k + 1) (x ++ b :: y) = x :: splitK [b] 0 k y := by
  rw [splitK, index_hit h, if_neg (by simp)]
  simp
theorem FC {b : UInt8} {x : List UInt8} (h : Free b x) (k : Nat) : splitK [b] 0 k x = [x] := by
  cases k with
  | zero => rfl
  | succ k => rw [splitK, um h]; rfl
def Figs (l : List UInt8) : Prop := ∀ c ∈ l, 48 ≤ c.toNat ∧ c.toNat ≤ 57
theorem LZ {l : List UInt8} (h : Figs l) : l.all jc = true := by
  rw [List.all_eq_true]
  intro c hc
  exact decide_eq_true (h c hc)
theorem Figs.free {l : List UInt8} (h : Figs l) {b : UInt8} (hb : b.toNat < 48 ∨ 57 < b.toNat) : Free b l := fun c hc e => by
  have := h c hc
  rw [e] at this
  omega
theorem jI {n : Nat} (h : n < 10) : (UInt8.ofNat (48 + n)).toNat = 48 + n := by simp; omega
theorem dP {u : Nat} (h : 10 ≤ u) : decDigits u = decDigits (u / 10) ++ [UInt8.ofNat (48 + u % 10)] := by rw [decDigits, dif_neg (by omega)]
theorem vO (u : Nat) : Figs (decDigits u) := by
  refine Nat.strongRecOn u fun u ih => ?_
  by_cases h : u < 10
  · rw [decDigits_one h]
    intro c hc
    rw [List.mem_singleton.1 hc, jI h]
    omega
  · rw [dP (by omega)]
    intro c hc
    rcases List.mem_append.1 hc with hc | hc
    · exact ih _ (by omega) c hc
    · rw [List.mem_singleton.1 hc, jI (by omega)]
      omega
theorem D8 (u : Nat) : valL (decDigits u) = u := by
  refine Nat.strongRecOn u fun u ih => ?_
  by_cases h : u < 10
  · rw [decDigits_one h]
    show 0 * 10 + ((UInt8.ofNat (48 + u)).toNat - 48) = u
    rw [jI h]
    omega
  · rw [dP (by omega), xm, ih _ (by omega), jI (by omega)]
    omega
theorem xq (u : Nat) : decDigits u ≠ [] := by
  by_cases h : u < 10
  · rw [decDigits_one h]; simp
  · rw [dP (by omega)]; simp
theorem L6 (u : Nat) (hu : 0 < u) : (decDigits u).getD 0 0 ≠ 48 := by
  revert hu
  refine Nat.strongRecOn u fun u ih hu => ?_
  by_cases h : u < 10
  · rw [decDigits_one h]
    intro e
    have := congrArg UInt8.toNat e
    rw [show ([UInt8.ofNat (48 + u)].getD 0 0) = UInt8.ofNat (48 + u) from rfl, jI h] at this
    have : 48 + u = 48 := this
    omega
  · have := ih (u / 10) (by omega) (by omega)
    rw [dP (by omega)]
    obtain ⟨c, l, e⟩ := List.exists_cons_of_ne_nil (xq (u / 10))
    rw [e] at this ⊢
    exact this
theorem yH (k : Nat) : ∀ u : Nat, u < 10 ^ (k + 1) → (decDigits u).length ≤ k + 1 := by
  induction k with
  | zero => intro u hu; rw [decDigits_one (by omega)]; simp
  | succ k ih =>
    intro u hu
    by_cases h : u < 10
    · rw [decDigits_one h]; simp
    · have := ih (u / 10) (by rw [Nat.pow_succ] at hu; omega)
      rw [dP (by omega), List.length_append, List.length_singleton]
      omega
theorem L8 {u : Nat} (h : u ≤ 999999999) : numL (decDigits u) = u := by
  unfold numL
  rw [if_pos, D8]
  refine ⟨LZ (vO u), yH 8 u (by omega), xq u, fun h1 => ?_⟩
  refine L6 u ?_
  rcases Nat.eq_zero_or_pos u with rfl | h0
  · rw [decDigits_one (by omega)] at h1; simp at h1
  · exact h0
theorem zB : ∀ (l : List UInt8) (acc : Nat), Figs l → l.foldl (fun n c => n * 10 + (c.toNat - 48)) acc < 1844674407370955162 → acc ≤ l.foldl (fun n c => n * 10 + (c.toNat - 48)) acc ∧ parseUint10 acc l = .ok (l.foldl (fun n c => n * 10 + (c.toNat - 48)) acc)
  | [], acc, _, _ => ⟨Nat.le_refl _, rfl⟩
  | c :: l, acc, h, hb => by
    rw [List.foldl_cons] at hb ⊢
    obtain ⟨h1, h2⟩ := zB l (acc * 10 + (c.toNat - 48)) (fun d hd => h d (List.mem_cons_of_mem _ hd)) hb
    refine ⟨by omega, ?_⟩
    rw [parseUint10, if_pos (h c (List.mem_cons_self ..)), if_neg (by omega), if_neg (by omega), h2]
theorem L9 {u : Nat} (h : u ≤ 999999999) : atoiAll (decDigits u) = .ok u := by
  have hp := (zB (decDigits u) 0 (vO u) (by have := D8 u; unfold valL at this; omega)).2
  have hv : (decDigits u).foldl (fun n c => n * 10 + (c.toNat - 48)) 0 = u := D8 u
  rw [hv] at hp
  have hd := vO u
  obtain ⟨c, l, e⟩ := List.exists_cons_of_ne_nil (xq u)
  rw [e] at hp hd ⊢
  have hc := hd c (List.mem_cons_self ..)
  unfold atoiAll
  simp only []
  rw [if_neg (by omega)]
  unfold parseMag
  rw [if_neg (by simp), hp]
  simp only []
  rw [if_neg (by omega), if_neg (by omega), if_neg (by omega)]
theorem jg {n : Int} (h : 0 ≤ n) : Lib.itoa n = decDigits n.toNat := by unfold Lib.itoa; rw [if_neg (by omega)]
theorem dh {n : Int} (h : 0 ≤ n) : Figs (Lib.itoa n) := by rw [jg h]; exact vO _
theorem aP {n : Int} (h : 0 ≤ n) {b : UInt8} (hb : b.toNat < 48 ∨ 57 < b.toNat) : Free b (Lib.itoa n) := (dh h).free hb
theorem oD {n : Int} (h : 0 ≤ n) (h' : n ≤ 999999999) : numL (Lib.itoa n) = n := by rw [jg h, L8 (by omega)]; omega
theorem J8 {n : Int} (h : 0 ≤ n) (h' : n ≤ 999999999) : atoiAll (Lib.itoa n) = .ok n := by rw [jg h, L9 (by omega)]; congr 1; omega
theorem kK (n : Int) : (aI n).data.toList = Lib.itoa n := by simp [aI]
theorem lX {n : Int} (h : 0 ≤ n) (h' : n ≤ 999999999) : numI (aI n) = n := by unfold numI; rw [kK, J8 h h']
theorem uo {n : Int} (h : 0 ≤ n) (h' : n ≤ 999999999) : numL (aI n).data.toList = n := by rw [kK, oD h h']
theorem Mc (n : Int) : ofL (Lib.itoa n) = aI n := rfl
theorem qy (l : List UInt8) : (ofL l).data.toList = l := by simp [ofL]
theorem vP (s : ByteArray) : ofL s.data.toList = s := by cases s; simp [ofL]
theorem FD (l : List UInt8) : (ofL l).size = l.length := by show l.toArray.size = _; simp
theorem BQ {a b : ByteArray} (h : a.data.toList = b.data.toList) : a = b := by
  apply ByteArray.ext
  exact Array.ext' h
theorem FH (a b : ByteArray) : (a ++ b).data.toList = a.data.toList ++ b.data.toList := by rw [ByteArray.data_append, Array.toList_append]
theorem vT (s : ByteArray) (a b : Nat) : (s.extract a b).data.toList = (s.data.toList.take b).drop a := by
  rw [ByteArray.data_extract, Array.toList_extract]
  simp [List.extract_eq_take_drop, List.drop_take]
theorem mD (s : ByteArray) : s.data.toList.length = s.size := rfl
end Go.Pv
set_option linter.unusedVariables false
set_option linter.unusedSimpArgs false
namespace Go.Pv
open Go.Lib
theorem kL (turn tries place cell : Int) (last : Bool) (n : Nat) : (dU turn tries place cell last n).data.toList = Lib.itoa turn ++ 32 :: (Lib.itoa tries ++ 32 :: (Lib.itoa place ++ 32 :: (Lib.itoa cell ++ 32 :: ((gJ last).data.toList ++ 32 :: Lib.itoa n)))) := by
  unfold dU
  simp only [FH, kK, List.append_assoc, List.cons_append, List.nil_append]
theorem mF (turn tries place cell : Int) (last : Bool) (x : ByteArray) : (di turn tries place cell last x).data.toList = (dU turn tries place cell last x.size).data.toList ++ 58 :: (x.data.toList ++ 58 :: (Lib.itoa turn ++ 46 :: (Lib.itoa tries ++ [59]))) := by
  unfold di
  simp only [FH, kK, List.append_assoc, List.cons_append, List.nil_append]
theorem lY (last : Bool) {b : UInt8} (h1 : b ≠ 33) (h2 : b ≠ 45) : Free b (gJ last).data.toList := by
  intro c hc
  cases last
  · rw [List.mem_singleton.1 (show c ∈ [45] from hc)]; exact fun e => h2 e.symm
  · rw [List.mem_singleton.1 (show c ∈ [33] from hc)]; exact fun e => h1 e.symm
theorem Free.app {b : UInt8} {x y : List UInt8} (h1 : Free b x) (h2 : Free b y) : Free b (x ++ y) := fun c hc => (List.mem_append.1 hc).elim (h1 c) (h2 c)
theorem Free.cons {b c : UInt8} {x : List UInt8} (h1 : c ≠ b) (h2 : Free b x) : Free b (c :: x) := fun d hd => by
  rcases List.mem_cons.1 hd with rfl | hd
  · exact h1
  · exact h2 d hd
theorem zC {turn tries place cell : Int} (last : Bool) (n : Nat) (h1 : 0 ≤ turn) (h2 : 0 ≤ tries) (h3 : 0 ≤ place) (h4 : 0 ≤ cell) : Free 58 (dU turn tries place cell last n).data.toList := by
  rw [kL]
  exact (aP h1 (.inr (by decide))).app (.cons (by decide) ((aP h2 (.inr (by decide))).app (.cons (by decide) ((aP h3 (.inr (by decide))).app (.cons (by decide) ((aP h4 (.inr (by decide))).app (.cons (by decide)
    ((lY last (by decide) (by decide)).app (.cons (by decide) (aP (by omega) (.inr (by decide))))))))))))
theorem FI {turn tries place cell : Int} (last : Bool) (n : Nat) (h1 : 0 ≤ turn) (h2 : 0 ≤ tries) (h3 : 0 ≤ place) (h4 : 0 ≤ cell) : cutL (dU turn tries place cell last n) 32 5 = [aI turn, aI tries, aI place, aI cell, gJ last, aI n] := by
  unfold cutL
  rw [kL, iW _ _ (aP h1 (.inl (by decide))), iW _ _ (aP h2 (.inl (by decide))), iW _ _ (aP h3 (.inl (by decide))), iW _ _ (aP h4 (.inl (by decide))),
    iW _ _ (lY last (by decide) (by decide)), Ib]
  simp only [List.nil_append, List.map_cons, List.map_nil, Mc, vP]
theorem FK {turn tries place cell : Int} (last : Bool) (x : ByteArray) (h1 : 0 ≤ turn) (h2 : 0 ≤ tries) (h3 : 0 ≤ place) (h4 : 0 ≤ cell) : partsOf (di turn tries place cell last x) = [aI turn, aI tries, aI place, aI cell, gJ last, aI x.size] := by
  unfold partsOf
  rw [show (cutL (di turn tries place cell last x) 58 1).getD 0 ByteArray.empty = dU turn tries place cell last x.size by
    unfold cutL
    rw [mF, iW _ _ (zC last _ h1 h2 h3 h4)]
    simp only [List.nil_append, List.map_cons, List.getD_cons_zero, vP], FI last _ h1 h2 h3 h4]
theorem qZ {turn tries place cell : Int} (last : Bool) (x : ByteArray) (h1 : 0 ≤ turn) (h1' : turn ≤ 999999999) : numL ((cutL (di turn tries place cell last x) 32 1).getD 0 ByteArray.empty).data.toList = turn := by
  unfold cutL
  rw [mF, kL, List.append_assoc, List.cons_append, iW _ _ (aP h1 (.inl (by decide)))]
  simp only [List.nil_append, List.map_cons, List.getD_cons_zero, qy]
  exact oD h1 h1'
theorem mark_eq (last : Bool) : (gJ last = ⟨#[33]⟩) ↔ last = true := by
  cases last
  · simp [gJ]
  · simp [gJ]
theorem FM (turn tries place cell : Int) (last : Bool) (n : Nat) : sizes6 [aI turn, aI tries, aI place, aI cell, gJ last, aI n] = (dU turn tries place cell last n).size + 1 := by
  unfold sizes6 dU
  simp only [ByteArray.size_append, gK, List.size_toArray, List.length_cons, List.length_nil, List.getD_cons_zero, List.getD_cons_succ]
  omega
theorem Ic (turn tries place cell : Int) (last : Bool) (x : ByteArray) : (di turn tries place cell last x).extract ((dU turn tries place cell last x.size).size + 1) ((dU turn tries place cell last x.size).size + 1 + x.size) = x := by
  apply BQ
  rw [vT, mF, List.drop_take, List.drop_append, ← mD (dU ..)]
  rw [List.drop_eq_nil_of_le (by omega), List.nil_append, show (dU turn tries place cell last x.size).data.toList.length + 1 - (dU turn tries place cell last x.size).data.toList.length = 1 by omega]
  rw [List.drop_succ_cons, List.drop_zero, show (dU turn tries place cell last x.size).data.toList.length + 1 + x.size - ((dU turn tries place cell last x.size).data.toList.length + 1) = x.data.toList.length by rw [mD x]; omega, List.take_append_of_le_length (Nat.le_refl _), List.take_length]
theorem Ie (turn tries place cell : Int) (last : Bool) (x : ByteArray) : (dU turn tries place cell last x.size).size + 1 + x.size ≤ (di turn tries place cell last x).size := by
  unfold di
  simp only [ByteArray.size_append, gK, List.size_toArray, List.length_cons, List.length_nil]
  omega
def FrIn (f : Fr) : Prop := (1 ≤ f.turn ∧ f.turn ≤ 99999) ∧ (1 ≤ f.tries ∧ f.tries ≤ 99) ∧ (0 ≤ f.place ∧ f.place ≤ 19) ∧ (0 ≤ f.cell ∧ f.cell ≤ 19) ∧ f.text.size ≤ 1100
theorem ni {f : Fr} (h : FrIn f) : fK (frOf f) f.turn f.place = (f.tries, f.last, ⟨f.cell, f.text⟩) := by
  obtain ⟨h1, h2, h3, h4, h5⟩ := h
  unfold fK frOf
  rw [FK f.last f.text (by omega) (by omega) (by omega) (by omega)]
  unfold getL
  rw [FM]
  simp only [numAt, List.getD_cons_zero, List.getD_cons_succ]
  rw [uo (n := f.tries) (by omega) (by omega), uo (n := f.cell) (by omega) (by omega), uo (n := (f.text.size : Int)) (by omega) (by omega), Int.toNat_natCast, Ic]
  have hs := Ie f.turn f.tries f.place f.cell f.last f.text
  have hm : decide (gJ f.last = ⟨#[33]⟩) = f.last := by rw [Bool.eq_iff_iff, decide_eq_true_iff]; exact mark_eq _
  rw [hm, if_neg (by simp), if_neg (by omega), if_neg (by simp)]
theorem Ig {s : ByteArray} {turn place : Int} (h : (fK s turn place).1 ≤ 0) : fK s turn place = (0, false, wt0) := by
  unfold fK getL at h ⊢
  split
  · rfl
  · rw [if_neg ‹_›] at h
    split
    · rfl
    · rw [if_neg ‹_›] at h
      split
      · rfl
      · rw [if_neg ‹_›] at h
        simp only at h
        omega
theorem ny {s : ByteArray} {turn place : Int} (ht : 1 ≤ turn ∧ turn ≤ 99999) (hp : 0 ≤ place ∧ place ≤ 19) (h : 0 < (fK s turn place).1) :
    FrIn ⟨turn, (fK s turn place).1, place, (fK s turn place).2.2.cell, (fK s turn place).2.1, (fK s turn place).2.2.text⟩ ∧ frOf ⟨turn, (fK s turn place).1, place, (fK s turn place).2.2.cell, (fK s turn place).2.1, (fK s turn place).2.2.text⟩ = s := by
  unfold fK getL at h ⊢
  split at h
  · simp at h
  · split at h
    · simp at h
    · split at h
      · simp at h
      · rename_i h1 h2 h3
        rw [if_neg h1, if_neg h2, if_neg h3]
        refine ⟨⟨ht, ?_, hp, ?_, ?_⟩, Classical.not_not.1 h3⟩
        · show 1 ≤ numAt _ 1 ∧ numAt _ 1 ≤ 99; omega
        · show 0 ≤ numAt _ 3 ∧ numAt _ 3 ≤ 19; omega
        · show ByteArray.size (ByteArray.extract ..) ≤ 1100
          rw [ByteArray.size_extract]
          omega
theorem FN {turn tries place cell : Int} (last : Bool) (n : Nat) (h1 : 0 ≤ turn) (h2 : 0 ≤ tries) (h3 : 0 ≤ place) (h4 : 0 ≤ cell) : jA (dU turn tries place cell last n) ⟨#[32]⟩ = [aI turn, aI tries, aI place, aI cell, gJ last, aI n] := by
  have key : (jA (dU turn tries place cell last n) ⟨#[32]⟩).map (·.data.toList) = [aI turn, aI tries, aI place, aI cell, gJ last, aI n].map (·.data.toList) := by
    unfold jA
    rw [splitB_data]
    show splitK [32] 0 (Lib.count (dU turn tries place cell last n).data.toList [32]) _ = _
    unfold Lib.count
    have hl : 5 ≤ (dU turn tries place cell last n).data.toList.length := by rw [kL]; simp only [List.length_append, List.length_cons]; omega
    obtain ⟨k, hk⟩ : ∃ k, (dU turn tries place cell last n).data.toList.length + 1 = k + 5 := ⟨_, (Nat.sub_add_cancel (by omega : 5 ≤ _)).symm⟩
    rw [hk, kL]
    rw [jf (aP h1 (.inl (by decide))) (k + 4), jf (aP h2 (.inl (by decide))) (k + 3), jf (aP h3 (.inl (by decide))) (k + 2), jf (aP h4 (.inl (by decide))) (k + 1), jf (lY last (by decide) (by decide)) k, zA (aP (by omega) (.inl (by decide)))]
    show splitK [32] 0 5 _ = _
    rw [mi (aP h1 (.inl (by decide))), mi (aP h2 (.inl (by decide))), mi (aP h3 (.inl (by decide))), mi (aP h4 (.inl (by decide))), mi (lY last (by decide) (by decide)), FC (aP (by omega) (.inl (by decide)))]
    simp only [List.map_cons, List.map_nil, kK]
  have h := congrArg (List.map ofL) key
  simpa only [List.map_map, Function.comp_def, vP, List.map_id'] using h
theorem J9 {turn tries place cell : Int} (last : Bool) (x : ByteArray) (h1 : 0 ≤ turn) (h2 : 0 ≤ tries) (h3 : 0 ≤ place) (h4 : 0 ≤ cell) : (cutB (di turn tries place cell last x) ⟨#[58]⟩).1 = dU turn tries place cell last x.size ∧ (cutB (di turn tries place cell last x) ⟨#[58]⟩).2.1 = ofL (x.data.toList ++ 58 :: (Lib.itoa turn ++ 46 :: (Lib.itoa tries ++ [59]))) := by
  unfold cutB
  rw [mF, show (⟨#[58]⟩ : ByteArray).data.toList = [58] from rfl, Jj (zC last _ h1 h2 h3 h4)]
  exact ⟨vP _, rfl⟩
theorem xW {f : Fr} (h : FrIn f) : jG (frOf f) f.place = (f, true) := by
  obtain ⟨h1, h2, h3, h4, h5⟩ := h
  obtain ⟨e1, e2⟩ := J9 (turn := f.turn) (tries := f.tries) (place := f.place) (cell := f.cell) f.last f.text (by omega) (by omega) (by omega) (by omega)
  have hf : frOf f = di f.turn f.tries f.place f.cell f.last f.text := rfl
  rw [jG, hf, e1, e2, FN f.last _ (by omega) (by omega) (by omega) (by omega), ← hf]
  unfold frL
  simp only [List.getD_cons_zero, List.getD_cons_succ]
  rw [lX (n := f.turn) (by omega) (by omega), lX (n := f.tries) (by omega) (by omega), lX (n := f.place) (by omega) (by omega), lX (n := f.cell) (by omega) (by omega), lX (n := (f.text.size : Int)) (by omega) (by omega), Int.toNat_natCast]
  have hm : decide (gJ f.last = ⟨#[33]⟩) = f.last := by rw [Bool.eq_iff_iff, decide_eq_true_iff]; exact mark_eq _
  have hx : (ofL (f.text.data.toList ++ 58 :: (Lib.itoa f.turn ++ 46 :: (Lib.itoa f.tries ++ [59])))).extract 0 f.text.size = f.text := by
    apply BQ
    rw [vT, qy, List.drop_zero, ← mD f.text, List.take_append_of_le_length (Nat.le_refl _), List.take_length]
  have hs : f.text.size ≤ (ofL (f.text.data.toList ++ 58 :: (Lib.itoa f.turn ++ 46 :: (Lib.itoa f.tries ++ [59])))).size := by rw [FD, List.length_append, mD]; omega
  rw [hm, hx, if_neg (by simp), if_neg (by omega)]
  simp
theorem nz {s : ByteArray} {place : Int} (hp : 0 ≤ place ∧ place ≤ 19) (h : (jG s place).2 = true) : FrIn (jG s place).1 ∧ (jG s place).1.place = place ∧ frOf (jG s place).1 = s := by
  unfold jG frL at h ⊢
  split at h
  · simp at h
  · split at h
    · simp at h
    · rename_i h1 h2
      rw [if_neg h1, if_neg h2]
      simp only [decide_eq_true_eq] at h
      refine ⟨⟨?_, ?_, ?_, ?_, ?_⟩, ?_, h⟩
      · show 1 ≤ numI _ ∧ numI _ ≤ 99999; omega
      · show 1 ≤ numI _ ∧ numI _ ≤ 99; omega
      · show 0 ≤ numI _ ∧ numI _ ≤ 19; omega
      · show 0 ≤ numI _ ∧ numI _ ≤ 19; omega
      · show ByteArray.size (ByteArray.extract ..) ≤ 1100
        rw [ByteArray.size_extract]; omega
      · show numI _ = place; omega
theorem Md {s : ByteArray} {turn place : Int} (ht : 1 ≤ turn ∧ turn ≤ 99999) (hp : 0 ≤ place ∧ place ≤ 19) :
    fK s turn place = if (jG s place).2 = true ∧ (jG s place).1.turn = turn then ((jG s place).1.tries, (jG s place).1.last, ⟨(jG s place).1.cell, (jG s place).1.text⟩) else (0, false, wt0) := by
  by_cases h : 0 < (fK s turn place).1
  · obtain ⟨h1, h2⟩ := ny ht hp h
    have := xW h1
    rw [h2] at this
    simp only at this
    rw [this, if_pos ⟨rfl, rfl⟩]
  · split
    · rename_i hf
      obtain ⟨h1, h2, h3⟩ := nz hp hf.1
      have := ni h1
      rw [h3, h2, hf.2] at this
      exact this
    · exact Ig (by omega)
theorem rf (n : Int) : (headB n).data.toList = 72 :: (Lib.itoa n ++ 46 :: (Lib.itoa n ++ [59])) := by
  unfold headB
  simp only [FH, kK, List.append_assoc, List.cons_append, List.nil_append]
theorem jC {n : Int} (h : 1 ≤ n ∧ n ≤ 99999) {place : Int} (hp : n.tmod 2 = place) : aA (headB n) place = n := by
  unfold aA
  have hs : 2 ≤ (headB n).size := by unfold headB; simp only [ByteArray.size_append, gK, List.size_toArray, List.length_cons, List.length_nil]; omega
  rw [if_pos ⟨hs, by rw [rf]; rfl⟩]
  have e : ((cutL ((headB n).extract 1 (headB n).size) 46 1).getD 0 ByteArray.empty).data.toList = Lib.itoa n := by
    unfold cutL
    rw [vT, ← mD (headB n), List.take_length, rf, List.drop_succ_cons, List.drop_zero, iW _ _ (aP (by omega) (.inl (by decide)))]
    simp only [List.nil_append, List.map_cons, List.getD_cons_zero, qy]
  rw [e, oD (by omega) (by omega), BN, if_pos ⟨h.1, h.2, hp, rfl⟩]
theorem Ih {n : Int} (h : 1 ≤ n ∧ n ≤ 99999) : jH (headB n) = n := by
  unfold jH
  have e : (cutB (trimB (headB n) ⟨#[72]⟩) ⟨#[46]⟩).1 = aI n := by
    have e1 : (trimB (headB n) ⟨#[72]⟩).data.toList = Lib.itoa n ++ 46 :: (Lib.itoa n ++ [59]) := by
      unfold trimB
      rw [rf]
      show (ofL (Lib.trimPrefix _ [72])).data.toList = _
      rw [qy]
      unfold Lib.trimPrefix
      rw [if_pos (by simp [Lib.hasPrefix, List.isPrefixOf])]
      rfl
    unfold cutB
    rw [e1, show (⟨#[46]⟩ : ByteArray).data.toList = [46] from rfl, Jj (aP (by omega) (.inl (by decide)))]
    rfl
  rw [e, lX (by omega) (by omega), BO, if_pos ⟨h.1, h.2, rfl⟩]
theorem Me (s : ByteArray) : jH s = 0 ∨ (1 ≤ jH s ∧ jH s ≤ 99999 ∧ headB (jH s) = s) := by
  unfold jH BO
  split
  · rename_i h; exact .inr h
  · exact .inl rfl
theorem FO (s : ByteArray) (place : Int) : aA s place = if (jH s).tmod 2 = place then jH s else 0 := by
  by_cases h : aA s place = 0
  · rw [h]
    split
    · rename_i hp
      rcases Me s with h1 | ⟨h1, h2, h3⟩
      · exact h1.symm
      · have := jC ⟨h1, h2⟩ hp
        rw [h3, h] at this
        omega
    · rfl
  · have hh : 1 ≤ aA s place ∧ aA s place ≤ 99999 ∧ (aA s place).tmod 2 = place ∧ headB (aA s place) = s := by
      unfold aA BN at h ⊢
      split at h
      · split at h
        · rename_i h1 h2; rw [if_pos h1, if_pos h2]; exact h2
        · exact absurd rfl h
      · exact absurd rfl h
    obtain ⟨h1, h2, h3, h4⟩ := hh
    have := Ih ⟨h1, h2⟩
    rw [h4] at this
    rw [this, if_pos h3]
end Go.Pv
set_option linter.unusedVariables false
set_option linter.unusedSimpArgs false
namespace Go.Pv
variable {P : Program}
def tI (c : List ByteArray) : Nat → Int
  | 0 => 0
  | n + 1 => if (jH (c.getD n ByteArray.empty)).tmod 2 = n then max (tI c n) (jH (c.getD n ByteArray.empty)) else tI c n
def qOf (c : List ByteArray) (k : Nat) : Fr × Bool := jG (c.getD (22 + k) ByteArray.empty) k
def trP (q : Nat → Fr × Bool) (turn : Int) : Nat → Int
  | 0 => 0
  | n + 1 => if (q n).2 = true ∧ (q n).1.turn = turn then max (trP q turn n) (q n).1.tries else trP q turn n
def fP (q : Nat → Fr × Bool) (k : Nat) : Fr := if (q k).2 = true then (q k).1 else fr0
def fsP (q : Nat → Fr × Bool) (i : Nat) : List Fr := (List.range i).map (fP q) ++ List.replicate (20 - i) fr0
def BR (q : Nat → Fr × Bool) (turn : Int) (k : Nat) : Bool := (q k).2 && decide (turn < (q k).1.turn)
def nC (l : List ByteArray) (fs : List Fr) : List ByteArray := fs.foldl (fun out f => out.set f.cell.toNat f.text) l
def rdP (fs : List Fr) (turn : Int) : Nat → Nat → Int → List ByteArray → Nat × List ByteArray
  | 0, next, _, pages => (next, pages)
  | k + 1, next, above, pages =>
    if grpP fs turn above next (20 - next) next = 0 then (next, pages)
    else rdP fs turn k (next + grpP fs turn above next (20 - next) next) (fs.getD next fr0).tries (nC pages ((fs.drop next).take (grpP fs turn above next (20 - next) next)))
def xX (d : Dk) (q : Nat → Fr × Bool) (turn : Int) : Stor × Bool :=
  if turn = 0 ∨ dL (BR q turn) 20 = true then (bU, false)
  else if (rdP (fsP q 20) turn 21 0 0 (ay d.cells)).2.any (fun s => decide (1100 < s.size)) = true then (bU, false)
  else (⟨d, turn, trP q turn 20, (rdP (fsP q 20) turn 21 0 0 (ay d.cells)).1, (rdP (fsP q 20) turn 21 0 0 (ay d.cells)).2⟩, true)
def FP (d : Dk) : Stor × Bool := xX d (qOf d.cells) (tI (d.cells.take 2) 2)
def bV (d : Dk) : Stor × Bool := if dkOk d = true ∧ d.waits.length = 0 then FP d else (bU, false)
def mG (s : Stor) : Bool := decide ((bV s.disk).2 = true ∧ (bV s.disk).1.tries ≤ s.tries ∧ s.tries ≤ 99 ∧ s.turn = (bV s.disk).1.turn ∧ s.next = (bV s.disk).1.next ∧ s.pages = (bV s.disk).1.pages)
abbrev dJ (s : Stor) : PV := .agg [.ref 0 0 s.disk.cells.length, .ref 1 0 s.disk.waits.length, vI s.disk.room, vI s.disk.left, vI s.turn, vI s.tries, vI s.next, .ref 2 0 s.pages.length]
abbrev aJ (s : Stor) : List (TypeId × List PV) := [(9, s.disk.cells.map vS), (110, s.disk.waits.flatMap cWt), (9, s.pages.map vS)]
theorem o6 (l : List ByteArray) (fs : List Fr) : (nC l fs).length = l.length := by
  unfold nC
  induction fs generalizing l with
  | nil => rfl
  | cons x fs ih => rw [List.foldl_cons, ih, List.length_set]
theorem D9 {fs : List Fr} {turn above : Int} {place : Nat} : ∀ (k n : Nat), place ≤ n → place + grpP fs turn above place k n ≤ n + k
  | 0, n, h => by simp only [grpP]; omega
  | k + 1, n, h => by
    unfold grpP
    split
    · omega
    · split
      · omega
      · have := D9 (fs := fs) (turn := turn) (above := above) (place := place) k (n + 1) (by omega)
        omega
theorem o7 (q : Nat → Fr × Bool) (i : Nat) (h : i ≤ 20) : (fsP q i).length = 20 := by
  unfold fsP; simp; omega
theorem zD (q : Nat → Fr × Bool) {i : Nat} (h : i < 20) : fsP q (i + 1) = (fsP q i).set i (fP q i) := by
  unfold fsP
  rw [List.set_append_right _ _ (by simp), List.range_succ, List.map_append, List.append_assoc]
  congr 1
  simp only [List.length_map, List.length_range, Nat.sub_self, List.map_cons, List.map_nil]
  rw [show 20 - i = (19 - i) + 1 by omega, List.replicate_succ, List.set_cons_zero, show 20 - (i + 1) = 19 - i by omega]
  rfl
theorem MB (q : Nat → Fr × Bool) {i : Nat} (h : i < 20) (hq : (q i).2 = false) : fsP q (i + 1) = fsP q i := by
  rw [zD q h]
  have : fP q i = fr0 := by unfold fP; rw [hq]; rfl
  rw [this]
  unfold fsP
  rw [List.set_append_right _ _ (by simp)]
  congr 1
  simp only [List.length_map, List.length_range, Nat.sub_self]
  rw [show 20 - i = (19 - i) + 1 by omega, List.replicate_succ, List.set_cons_zero]
theorem uq {l : List ByteArray} {n : Nat} : (l.map vS).take n = (l.take n).map vS := by rw [List.map_take]
theorem Ii {l : List ByteArray} {n : Nat} : (l.map vS).drop n = (l.drop n).map vS := by rw [List.map_drop]
theorem FQ {n m : Nat} {l : List ByteArray} : Cln P (.val n (List.take m (List.map vS l))) = True := by rw [uq]; exact aU
theorem vU (s : ByteArray) : 0 ≤ jH s ∧ jH s ≤ 99999 := by
  unfold jH BO
  split
  · omega
  · omega
theorem Pq (c : List ByteArray) : ∀ n, 0 ≤ tI c n ∧ tI c n ≤ 99999
  | 0 => by simp [tI]
  | n + 1 => by
    have h1 := Pq c n
    have h2 := vU (c.getD n ByteArray.empty)
    unfold tI
    split <;> omega
theorem Ko {q : Nat → Fr × Bool} : (fsP q 0).flatMap cFr = zrep 20 [.b (.int .i64 0), .b (.int .i64 0), .b (.int .i64 0), .b (.int .i64 0), .b (.bool false), .b (.string ByteArray.empty)] := rfl
theorem FT {l : List Fr} {i : Nat} {f : Fr} (h : i < l.length) : ((((((l.flatMap cFr).set (i * 6) (vI f.turn)).set (i * 6 + 1) (vI f.tries)).set (i * 6 + 1 + 1) (vI f.place)).set (i * 6 + 1 + 1 + 1) (vI f.cell)).set (i * 6 + 1 + 1 + 1 + 1) (vB f.last)).set (i * 6 + 1 + 1 + 1 + 1 + 1) (vS f.text) = (l.set i f).flatMap cFr := by
  induction l generalizing i with
  | nil => exact absurd h (Nat.not_lt_zero _)
  | cons x l ih =>
    cases i with
    | zero => rfl
    | succ i =>
      have := ih (i := i) (by simpa using h)
      rw [show (i + 1) * 6 = i * 6 + 6 by omega, List.set_cons_succ, List.flatMap_cons (xs := l.set i f), ← this]
      rfl
theorem MC {l : List Fr} : (∀ (z : PV) (x : Fr), x ∈ l → z = vI x.turn ∨ z = vI x.tries ∨ z = vI x.place ∨ z = vI x.cell ∨ z = vB x.last ∨ z = .b (.string x.text) → Cln P z) = True := eq_true fun z x _ h => by
  rcases h with rfl | rfl | rfl | rfl | rfl | rfl <;> exact Cln.b _
theorem rq {n : Nat} {l : List Fr} : HOk P (.val n (l.flatMap cFr)) := .inr (.inr qY)
theorem MF {l : List Fr} {n : Nat} {z : Option (List Value)} {K : PV → Prop} (h : 0 < l.length) (hK : K (vI (l.getD 0 fr0).tries)) : fQ ⟨false, 1, n, z⟩ ((l.flatMap cFr).drop 1) K := by
  cases l with
  | nil => exact absurd h (Nat.not_lt_zero _)
  | cons x l =>
    show fQ _ (vI x.tries :: _) K
    rw [eH]; exact hK
theorem Kq (q : Nat → Fr × Bool) (hq : ∀ k, k < 20 → (q k).2 = true → FrIn (q k).1) : ∀ f ∈ fsP q 20, 0 ≤ f.cell ∧ f.cell ≤ 19 := fun f hf => by
  unfold fsP at hf
  simp only [List.mem_append, List.mem_map, List.mem_range, List.mem_replicate] at hf
  rcases hf with ⟨k, hk, rfl⟩ | ⟨_, rfl⟩
  · unfold fP
    split
    · exact (hq k hk (by assumption)).2.2.2.1
    · simp [fr0]
  · simp [fr0]
theorem ut (fs : List Fr) (turn : Int) : ∀ (k next : Nat) (above : Int) (pages : List ByteArray), (rdP fs turn k next above pages).2.length = pages.length
  | 0, _, _, _ => rfl
  | k + 1, next, above, pages => by
    unfold rdP
    split
    · rfl
    · rw [ut fs turn k, o6]
theorem xu (d : Dk) : (bV d).1.pages.length ≤ 20 := by
  unfold bV
  split
  · unfold FP xX
    split
    · exact Nat.zero_le _
    · split
      · exact Nat.zero_le _
      · dsimp only
        rw [ut]
        unfold ay
        rw [List.length_take]
        omega
  · exact Nat.zero_le _
end Go.Pv
set_option linter.unusedVariables false
set_option linter.unusedSimpArgs false
namespace Go.Pv
def aO (d : Dk) (cell : Int) (text : ByteArray) : Dk × Bool :=
  if d.left = 0 then (d, true)
  else if wtOk ⟨cell, text⟩ = false ∨ d.room = 0 ∨ 100 ≤ d.waits.length then (d, false)
  else (⟨d.cells, d.waits ++ [⟨cell, text⟩], au d.room, au d.left⟩, true)
def aV (d : Dk) : Dk := if d.left = 0 then d else ⟨aj d.cells d.waits, [], d.room, au d.left⟩
def cZ (s : Stor) (d : Dk) : Stor := ⟨d, s.turn, s.tries, s.next, s.pages⟩
def endS (was next : Stor) (d : Dk) : Stor × Int := if d.left = 0 then (cZ was d, 3) else (cZ next d, 0)
def bz (was : Stor) (d : Dk) (tried : Int) : Stor × Int := if (aV d).left = 0 then (cZ was (aV d), 3) else (⟨aV d, was.turn, was.tries + tried, was.next, was.pages⟩, 2)
def bH (pages : List ByteArray) : Nat → Nat → Dk → Dk × Bool
  | 0, _, d => (d, true)
  | k + 1, i, d =>
    if d.cells.getD (2 + i) ByteArray.empty = pages.getD i ByteArray.empty then bH pages k (i + 1) d
    else if (aO d (2 + i) (pages.getD i ByteArray.empty)).2 = true then bH pages k (i + 1) (aO d (2 + i) (pages.getD i ByteArray.empty)).1 else (d, false)
def fU (s : Stor) (d : Dk) : Stor × Int :=
  if (aO d ((s.turn + 1).tmod 2) (headB (s.turn + 1))).2 = true then endS s ⟨s.disk, s.turn + 1, 0, 0, s.pages⟩ (aV (aO d ((s.turn + 1).tmod 2) (headB (s.turn + 1))).1)
  else bz s d 0
def ah (s : Stor) : Stor × Int :=
  if 99999 ≤ s.turn then (s, 4)
  else if (bH s.pages 20 0 s.disk).2 = true then fU s (aV (bH s.pages 20 0 s.disk).1)
  else bz s (bH s.pages 20 0 s.disk).1 0
theorem kY {d : Dk} (h : d.left = 0) (cell : Int) (text : ByteArray) : aO d cell text = (d, true) := if_pos h
theorem jY {d : Dk} (h : ¬ d.left = 0) {cell : Int} {text : ByteArray} (h1 : wtOk ⟨cell, text⟩ = false ∨ d.room = 0 ∨ 100 ≤ d.waits.length) : aO d cell text = (d, false) := by unfold aO; rw [if_neg h, if_pos h1]
theorem iD {d : Dk} (h : ¬ d.left = 0) {cell : Int} {text : ByteArray} (h1 : ¬ (wtOk ⟨cell, text⟩ = false ∨ d.room = 0 ∨ 100 ≤ d.waits.length)) : aO d cell text = (⟨d.cells, d.waits ++ [⟨cell, text⟩], au d.room, au d.left⟩, true) := by unfold aO; rw [if_neg h, if_neg h1]
theorem oG {d : Dk} {cell : Int} {text : ByteArray} (h : (aO d cell text).2 = false) : (aO d cell text).1 = d := by
  unfold aO at h ⊢
  split
  · rfl
  · split
    · rfl
    · rename_i h1 h2
      rw [if_neg h1, if_neg h2] at h
      cases h
theorem eQ {l : List ByteArray} {ws : List Wt} {i : Nat} (h : i < ws.length) : aj l (ws.take (i + 1)) = (aj l (ws.take i)).set (ws.getD i wt0).cell.toNat (ws.getD i wt0).text := by
  unfold aj
  rw [List.take_add_one, List.getElem?_eq_getElem h, List.foldl_append, List.getD_eq_getElem?_getD, List.getElem?_eq_getElem h]
  rfl
structure DkB (d : Dk) : Prop where
  cells : d.cells.length = 42
  waits : d.waits.length ≤ 100
  ok : ∀ x ∈ d.waits, 0 ≤ x.cell ∧ x.cell ≤ 41
  room : -9223372036854775807 ≤ d.room ∧ d.room ≤ 9223372036854775807
  left : -9223372036854775807 ≤ d.left ∧ d.left ≤ 9223372036854775807
theorem Jk {x : Wt} (h : wtOk x = true) : 0 ≤ x.cell ∧ x.cell ≤ 41 := by
  unfold wtOk at h
  rw [Bool.and_eq_true] at h
  exact of_decide_eq_true h.1
theorem xw {n : Int} (h : -9223372036854775807 ≤ n ∧ n ≤ 9223372036854775807) : -9223372036854775807 ≤ au n ∧ au n ≤ 9223372036854775807 := by unfold au; split <;> omega
theorem fF {d : Dk} (h : DkB d) (cell : Int) (text : ByteArray) : DkB (aO d cell text).1 := by
  unfold aO
  split
  · exact h
  · split
    · exact h
    · rename_i hn
      simp only [not_or] at hn
      refine ⟨h.cells, by simp; omega, fun x hx => ?_, xw h.room, xw h.left⟩
      rcases List.mem_append.1 hx with hx | hx
      · exact h.ok x hx
      · rw [List.mem_singleton.1 hx]
        exact Jk (by simpa using hn.1)
theorem fG {d : Dk} (h : DkB d) : DkB (aV d) := by
  unfold aV
  split
  · exact h
  · exact ⟨by dsimp only; rw [aQ]; exact h.cells, by simp, by simp, h.room, xw h.left⟩
theorem Ea {pages : List ByteArray} : ∀ (k i : Nat) (d : Dk), DkB d → DkB (bH pages k i d).1
  | 0, _, d, h => h
  | k + 1, i, d, h => by
    unfold bH
    split
    · exact Ea k (i + 1) d h
    · split
      · exact Ea k (i + 1) _ (fF h _ _)
      · exact h
end Go.Pv
set_option linter.unusedVariables false
set_option linter.unusedSimpArgs false
namespace Go.Pv
structure StB (s : Stor) : Prop where
  disk : DkB s.disk
  pages : s.pages.length = 20
  turn : 0 ≤ s.turn ∧ s.turn ≤ 99999
  tries : 0 ≤ s.tries ∧ s.tries ≤ 99
theorem MG {d : Dk} (h : dkOk d = true) (hr : d.room ≤ 9223372036854775807) (hl : d.left ≤ 9223372036854775807) : DkB d := by
  unfold dkOk at h
  rw [Bool.and_eq_true, Bool.and_eq_true] at h
  obtain ⟨⟨h1, _⟩, h3⟩ := h
  have h1 := of_decide_eq_true h1
  exact ⟨h1.1, h1.2.1, fun x hx => Jk (List.all_eq_true.1 h3 x hx), by omega, by omega⟩
theorem uu (g : Nat → Int × Bool × Wt) (hg : ∀ n, 0 ≤ (g n).1 ∧ (g n).1 ≤ 99) : ∀ n, 0 ≤ trL g n ∧ trL g n ≤ 99
  | 0 => by simp [trL]
  | n + 1 => by
    have h1 := uu g hg n
    have h2 := hg n
    unfold trL
    omega
theorem OD {d : Dk} (hd : DkB d) {turn : Int} (ht : 0 ≤ turn ∧ turn ≤ 99999) (h : (iC d turn).2 = true) : StB (iC d turn).1 ∧ (iC d turn).1.disk = d := by
  unfold iC at h ⊢
  split at h
  · cases h
  · split at h
    · cases h
    · rename_i h1 h2
      rw [if_neg h1, if_neg h2]
      refine ⟨⟨hd, ?_, ht, uu _ (o5 _ _) _⟩, rfl⟩
      dsimp only
      rw [qx]
      unfold ay
      rw [List.length_take, List.length_drop, hd.cells]
      rfl
theorem Jl {d : Dk} (hd : DkB d) (h : (dN d).2 = true) : StB (dN d).1 ∧ (dN d).1.disk = d := by
  have h1 := je (d.cells.getD 0 ByteArray.empty) 0
  have h2 := je (d.cells.getD 1 ByteArray.empty) 1
  exact OD hd (by omega) h
theorem lC {d : Dk} (hr : d.room ≤ 9223372036854775807) (hl : d.left ≤ 9223372036854775807) (h : (ai d).2 = true) : StB (ai d).1 ∧ (ai d).1.disk = d := by
  unfold ai at h ⊢
  split at h
  · rename_i hk
    rw [if_pos hk]
    exact Jl (MG hk.1 hr hl) h
  · cases h
theorem gZ {s : Stor} (hr : s.disk.room ≤ 9223372036854775807) (hl : s.disk.left ≤ 9223372036854775807) (h : ag s = true) : StB s := by
  obtain ⟨h1, h2, h3, h4, h5, h6, h7, h8, h9⟩ := of_decide_eq_true h
  have hd := MG h1 hr hl
  have hb := (Jl hd h5).1
  exact ⟨hd, by rw [← h9]; exact hb.pages, by rw [← h6]; exact hb.turn, ⟨h3, h4⟩⟩
def fM (b : Bool) (s : Stor) : Stor × Int := if b = true then ah s else (bU, 1)
def nD (r : Stor × Int) : Stor × Int := if r.2 = 0 then (r.1, 0) else (cZ bU r.1.disk, r.2)
def dn (x : Stor × Bool) : Stor × Int := if x.2 = true then nD (ah x.1) else (bU, 1)
theorem OE {s : Stor} {d : Dk} (hd : DkB d) : DkB (fU s d).1.disk ∧ (fU s d).1.pages = s.pages := by
  unfold fU endS bz
  have h1 := fG hd
  have h2 := fG (fF hd ((s.turn + 1).tmod 2) (headB (s.turn + 1)))
  repeat' split
  all_goals first | exact ⟨h1, rfl⟩ | exact ⟨h2, rfl⟩
theorem lS {s : Stor} (hb : StB s) : DkB (ah s).1.disk ∧ (ah s).1.pages = s.pages := by
  have hw := Ea (pages := s.pages) 20 0 s.disk hb.disk
  unfold ah
  split
  · exact ⟨hb.disk, rfl⟩
  · split
    · exact OE (fG hw)
    · unfold bz
      split
      · exact ⟨fG hw, rfl⟩
      · exact ⟨fG hw, rfl⟩
theorem Kr {s : Stor} (hr : s.disk.room ≤ 9223372036854775807) (hl : s.disk.left ≤ 9223372036854775807) : (fM (ag s) s).1.disk.cells.length ≤ 42 ∧ (fM (ag s) s).1.disk.waits.length ≤ 100 ∧ (fM (ag s) s).1.pages.length ≤ 20 := by
  unfold fM
  split
  · rename_i h
    have hb := gZ hr hl h
    have := lS hb
    have hp := hb.pages
    rw [this.2]
    exact ⟨by have := this.1.cells; omega, this.1.waits, by omega⟩
  · exact ⟨Nat.zero_le _, Nat.zero_le _, Nat.zero_le _⟩
theorem ru {d : Dk} (hr : d.room ≤ 9223372036854775807) (hl : d.left ≤ 9223372036854775807) : (dn (ai d)).1.disk.cells.length ≤ 42 ∧ (dn (ai d)).1.disk.waits.length ≤ 100 ∧ (dn (ai d)).1.pages.length ≤ 20 := by
  unfold dn
  split
  · rename_i h
    have hb := (lC hr hl h).1
    have := lS hb
    have hp := hb.pages
    unfold nD
    split
    · dsimp only
      rw [this.2]
      exact ⟨by have := this.1.cells; omega, this.1.waits, by omega⟩
    · exact ⟨by have := this.1.cells; show (ah (ai d).1).1.disk.cells.length ≤ 42; omega, this.1.waits, Nat.zero_le _⟩
  · exact ⟨Nat.zero_le _, Nat.zero_le _, Nat.zero_le _⟩
def jZ : Dk := ⟨List.replicate 42 ByteArray.empty, [], -1, -1⟩
theorem Jm : DkB jZ := ⟨rfl, Nat.zero_le _, by simp [jZ], by decide, by decide⟩
def newS : Stor := (dN (aV (aO jZ 1 (headB 1)).1)).1
end Go.Pv
set_option linter.unusedVariables false
set_option linter.unusedSimpArgs false
namespace Go.Pv
def lM (l : List Wt) (k : Nat) : Bool :=
  decide (¬ (0 ≤ (l.getD k wt0).cell ∧ (l.getD k wt0).cell ≤ 19)) || decide (1100 < (l.getD k wt0).text.size) || (decide (0 < k) && decide ((l.getD k wt0).cell ≤ (l.getD (k - 1) wt0).cell))
def listOk (l : List Wt) : Bool := !dL (lM l) l.length && decide (1 ≤ l.length ∧ l.length ≤ 20)
def aF (s : Stor) (l : List Wt) : Nat → Nat → Dk → Dk × Bool
  | 0, _, d => (d, true)
  | k + 1, i, d =>
    if (aO d (22 + (s.next + i)) (di s.turn (s.tries + 1) (s.next + i) (l.getD i wt0).cell (decide (i + 1 = l.length)) (l.getD i wt0).text)).2 = true then
      aF s l k (i + 1) (aO d (22 + (s.next + i)) (di s.turn (s.tries + 1) (s.next + i) (l.getD i wt0).cell (decide (i + 1 = l.length)) (l.getD i wt0).text)).1
    else (d, false)
def ak (s : Stor) (l : List Wt) : Stor × Int :=
  if (aF s l l.length 0 s.disk).2 = true then endS s ⟨s.disk, s.turn, s.tries + 1, s.next + l.length, aj s.pages l⟩ (aV (aF s l l.length 0 s.disk).1)
  else bz s (aF s l l.length 0 s.disk).1 1
def bQ (s : Stor) (l : List Wt) : Stor × Int :=
  if s.next + l.length ≤ 20 ∧ s.tries < 99 then ak s l
  else if (ah s).2 = 0 then ak (ah s).1 l else ah s
def aG (b : Bool) (s : Stor) (l : List Wt) : Stor × Int := if b = true then (if listOk l = true then bQ s l else (s, 1)) else (bU, 1)
theorem BU {s : Stor} {l : List Wt} : ∀ (k i : Nat) (d : Dk), DkB d → DkB (aF s l k i d).1
  | 0, _, d, h => h
  | k + 1, i, d, h => by
    unfold aF
    split
    · exact BU k (i + 1) _ (fF h _ _)
    · exact h
theorem bW {l : List Wt} (h : listOk l = true) : 1 ≤ l.length ∧ l.length ≤ 20 := by
  unfold listOk at h
  rw [Bool.and_eq_true] at h
  exact of_decide_eq_true h.2
theorem fE {l : List Wt} (h : listOk l = true) {k : Nat} (hk : k < l.length) : 0 ≤ (l.getD k wt0).cell ∧ (l.getD k wt0).cell ≤ 19 ∧ (l.getD k wt0).text.size ≤ 1100 := by
  unfold listOk at h
  rw [Bool.and_eq_true, Bool.not_eq_true'] at h
  have hb : lM l k = false := by
    rw [Bool.eq_false_iff]
    intro e
    rw [kJ hk e] at h
    exact Bool.noConfusion h.1
  unfold lM at hb
  rw [Bool.or_eq_false_iff, Bool.or_eq_false_iff] at hb
  have h1 := of_decide_eq_false hb.1.1
  have h2 := of_decide_eq_false hb.1.2
  omega
end Go.Pv
set_option linter.unusedVariables false
set_option linter.unusedSimpArgs false
namespace Go.Pv
theorem BV (g : Nat → Int × Bool × Wt) : ∀ (k next : Nat) (above : Int) (pages : List ByteArray), next ≤ 20 → (rdGo g k next above pages).1 ≤ 20
  | 0, _, _, _, h => h
  | k + 1, next, above, pages, h => by
    unfold rdGo
    have := lw (g := g) (above := above) (20 - next) next 0 []
    simp only [List.length_nil] at this
    split
    · exact BV g k _ _ _ (by omega)
    · exact h
theorem Ij (d : Dk) (turn : Int) : 0 ≤ (iC d turn).1.next ∧ (iC d turn).1.next ≤ 20 := by
  unfold iC
  split
  · exact ⟨Int.le_refl 0, by decide⟩
  · split
    · exact ⟨Int.le_refl 0, by decide⟩
    · have := BV (gOf d.cells turn) 21 0 0 (ay d.cells) (Nat.zero_le _)
      dsimp only
      omega
theorem o8 {s : Stor} (h : ag s = true) : 0 ≤ s.next ∧ s.next ≤ 20 := by
  obtain ⟨h1, h2, h3, h4, h5, h6, h7, h8, h9⟩ := of_decide_eq_true h
  rw [← h7]
  exact Ij _ _
theorem Ik {s : Stor} {d : Dk} (h : (fU s d).2 = 0) : (fU s d).1.turn = s.turn + 1 ∧ (fU s d).1.tries = 0 ∧ (fU s d).1.next = 0 := by
  unfold fU endS bz at h ⊢
  by_cases h1 : (aO d ((s.turn + 1).tmod 2) (headB (s.turn + 1))).2 = true
  · rw [if_pos h1] at h ⊢
    by_cases h2 : (aV (aO d ((s.turn + 1).tmod 2) (headB (s.turn + 1))).1).left = 0
    · rw [if_pos h2] at h; exact absurd (show (3 : Int) = 0 from h) (by decide)
    · rw [if_neg h2]; exact ⟨rfl, rfl, rfl⟩
  · rw [if_neg h1] at h
    split at h
    · exact absurd (show (3 : Int) = 0 from h) (by decide)
    · exact absurd (show (2 : Int) = 0 from h) (by decide)
theorem uw {s : Stor} (hb : StB s) (h : (ah s).2 = 0) : StB (ah s).1 ∧ (ah s).1.next = 0 ∧ (ah s).1.tries = 0 := by
  have hB := lS hb
  have ht := hb.turn
  have hp := hb.pages
  by_cases h1 : 99999 ≤ s.turn
  · rw [show ah s = (s, 4) from if_pos h1] at h
    exact absurd (show (4 : Int) = 0 from h) (by decide)
  by_cases h2 : (bH s.pages 20 0 s.disk).2 = true
  · have e : ah s = fU s (aV (bH s.pages 20 0 s.disk).1) := by unfold ah; rw [if_neg h1, if_pos h2]
    rw [e] at h
    have hf := Ik h
    rw [← e] at hf
    exact ⟨⟨hB.1, by rw [hB.2]; exact hp, by rw [hf.1]; omega, by rw [hf.2.1]; omega⟩, hf.2.2, hf.2.1⟩
  · have e : ah s = bz s (bH s.pages 20 0 s.disk).1 0 := by unfold ah; rw [if_neg h1, if_neg h2]
    rw [e] at h
    unfold bz at h
    split at h
    · exact absurd (show (3 : Int) = 0 from h) (by decide)
    · exact absurd (show (2 : Int) = 0 from h) (by decide)
theorem lT {s : Stor} {l : List Wt} {k i : Nat} {d : Dk} (h : (aO d (22 + (s.next + i)) (di s.turn (s.tries + 1) (s.next + i) (l.getD i wt0).cell (decide (i + 1 = l.length)) (l.getD i wt0).text)).2 = true) : aF s l (k + 1) i d = aF s l k (i + 1) (aO d (22 + (s.next + i)) (di s.turn (s.tries + 1) (s.next + i) (l.getD i wt0).cell (decide (i + 1 = l.length)) (l.getD i wt0).text)).1 := by
  conv => lhs; unfold aF; rw [if_pos h]
theorem o9 {s : Stor} {l : List Wt} {k i : Nat} {d : Dk} (h : (aO d (22 + (s.next + i)) (di s.turn (s.tries + 1) (s.next + i) (l.getD i wt0).cell (decide (i + 1 = l.length)) (l.getD i wt0).text)).2 = false) : aF s l (k + 1) i d = (d, false) := by
  conv => lhs; unfold aF; rw [h]
  simp
theorem pg {s : Stor} {l : List Wt} {d : Dk} (h : aF s l l.length 0 s.disk = (d, false)) : ak s l = bz s d 1 := by
  unfold ak; rw [h]; simp
theorem nG {s : Stor} {l : List Wt} {d : Dk} (h : aF s l l.length 0 s.disk = (d, true)) : ak s l = endS s ⟨s.disk, s.turn, s.tries + 1, s.next + l.length, aj s.pages l⟩ (aV d) := by
  unfold ak; rw [h]; simp
theorem BX {s : Stor} {l : List Wt} (hb : StB s) : DkB (ak s l).1.disk ∧ (ak s l).1.pages.length = 20 := by
  have hp := hb.pages
  have h1 := fG (BU (s := s) (l := l) l.length 0 s.disk hb.disk)
  unfold ak endS bz
  repeat' split
  all_goals exact ⟨h1, by first | exact hp | (show (aj s.pages l).length = 20; rw [aQ]; exact hp)⟩
theorem FU {s : Stor} {l : List Wt} (hb : StB s) : DkB (bQ s l).1.disk ∧ (bQ s l).1.pages.length = 20 := by
  unfold bQ
  split
  · exact BX hb
  · split
    · rename_i h
      exact BX (uw hb h).1
    · have := lS hb
      exact ⟨this.1, by rw [this.2]; exact hb.pages⟩
theorem fH {s : Stor} {l : List Wt} (hr : s.disk.room ≤ 9223372036854775807) (hl : s.disk.left ≤ 9223372036854775807) : (aG (ag s) s l).1.disk.cells.length ≤ 42 ∧ (aG (ag s) s l).1.disk.waits.length ≤ 100 ∧ (aG (ag s) s l).1.pages.length ≤ 20 := by
  unfold aG
  split
  · rename_i h
    have hb := gZ hr hl h
    split
    · have := FU (l := l) hb
      exact ⟨by have := this.1.cells; omega, this.1.waits, by omega⟩
    · exact ⟨by have := hb.disk.cells; show s.disk.cells.length ≤ 42; omega, hb.disk.waits, by have := hb.pages; show s.pages.length ≤ 20; omega⟩
  · exact ⟨Nat.zero_le _, Nat.zero_le _, Nat.zero_le _⟩
end Go.Pv
set_option linter.unusedVariables false
set_option linter.unusedSimpArgs false
namespace Go.Pv
variable {P : Program}
def sub (left w : Int) : Int := if w ≤ left then left - w else -1
def DkIn (d : Dk) : Prop := d.cells.length ≤ 9223372036854775807 ∧ (∀ k, (d.cells.getD k ByteArray.empty).size ≤ 9223372036854775807) ∧ d.waits.length ≤ 9223372036854775807 ∧ (∀ k, (d.waits.getD k wt0).text.size ≤ 9223372036854775807)
end Go.Pv
set_option linter.unusedVariables false
set_option linter.unusedSimpArgs false
namespace Go.Pv
theorem xY {f f' : Nat → Bool} : ∀ n, (∀ k, k < n → f k = f' k) → dL f n = dL f' n
  | 0, _ => rfl
  | n + 1, h => by unfold dL; rw [xY n (fun k hk => h k (by omega)), h n (by omega)]
theorem BZ {p : ByteArray → Bool} {l : List ByteArray} : ∀ n, n ≤ l.length → dL (fun k => p (l.getD k ByteArray.empty)) n = (l.take n).any p
  | 0, _ => by simp [dL]
  | n + 1, h => by
    unfold dL
    rw [BZ n (by omega), List.take_add_one, List.getElem?_eq_getElem (by omega : n < l.length), List.getD_eq_getElem?_getD, List.getElem?_eq_getElem (by omega : n < l.length), List.any_append]
    simp
theorem getD_take {l : List ByteArray} {i n : Nat} (h : i < n) : (l.take n).getD i ByteArray.empty = l.getD i ByteArray.empty := by
  rw [List.getD_eq_getElem?_getD, List.getElem?_take_of_lt h, ← List.getD_eq_getElem?_getD]
theorem OG (c : List ByteArray) : tI (c.take 2) 2 = max (aA (c.getD 0 ByteArray.empty) 0) (aA (c.getD 1 ByteArray.empty) 1) := by
  rw [FO, FO]
  have h0 := vU (c.getD 0 ByteArray.empty)
  have h1 := vU (c.getD 1 ByteArray.empty)
  unfold tI tI tI
  rw [getD_take (by omega), getD_take (by omega)]
  generalize jH (c.getD 0 ByteArray.empty) = a at h0 ⊢
  generalize jH (c.getD 1 ByteArray.empty) = b at h1 ⊢
  (repeat' split) <;> omega
def wtOf (f : Fr) : Wt := ⟨f.cell, f.text⟩
theorem Qg {c : List ByteArray} {turn : Int} {n : Nat} (ht : 1 ≤ turn ∧ turn ≤ 99999) (hn : n < 20) :
    gOf c turn n = if (qOf c n).2 = true ∧ (qOf c n).1.turn = turn then ((qOf c n).1.tries, (qOf c n).1.last, wtOf (qOf c n).1) else (0, false, wt0) := Md ht (by omega)
theorem Qh {c : List ByteArray} {n : Nat} (hn : n < 20) (h : (qOf c n).2 = true) : FrIn (qOf c n).1 := (nz (by omega) h).1
theorem OH {c : List ByteArray} {turn : Int} {n : Nat} (ht : 1 ≤ turn ∧ turn ≤ 99999) (hn : n < 20) : lK c turn n = BR (qOf c) turn n := by
  rw [Bool.eq_iff_iff]
  unfold lK BR
  simp only [decide_eq_true_eq, Bool.and_eq_true]
  have hown : ∀ f : Fr, FrIn f → frOf f = c.getD (22 + n) ByteArray.empty → vM c n = f.turn := fun f hf e => by
    have e' : di f.turn f.tries f.place f.cell f.last f.text = c.getD (22 + n) ByteArray.empty := e
    have h1 := hf.1
    have h2 := qZ (turn := f.turn) (tries := f.tries) (place := f.place) (cell := f.cell) f.last f.text (by omega) (by omega)
    rw [e'] at h2
    exact h2
  have hq : qOf c n = jG (c.getD (22 + n) ByteArray.empty) n := rfl
  rw [hq]
  generalize vM c n = O at hown ⊢
  generalize c.getD (22 + n) ByteArray.empty = s at hown ⊢
  constructor
  · rintro ⟨h1, h2, h3⟩
    obtain ⟨h4, h5⟩ := ny (s := s) (turn := O) (place := n) (by omega) (by omega) h1
    generalize fK s O n = r at h4 h5
    have := xW h4
    rw [h5] at this
    have h6 : jG s n = (⟨O, r.1, n, r.2.2.cell, r.2.1, r.2.2.text⟩, true) := this
    rw [h6]
    exact ⟨rfl, h2⟩
  · rintro ⟨h1, h2⟩
    obtain ⟨h3, h4, h5⟩ := nz (s := s) (place := n) (by omega) h1
    generalize jG s n = r at h2 h3 h4 h5
    have hg := ni h3
    have e := hown _ h3 h5
    rw [h5, h4, ← e] at hg
    rw [hg]
    have h6 := h3.1
    have h7 := h3.2.1
    exact ⟨by dsimp only; omega, by omega, by omega⟩
theorem Px {g : Nat → Int × Bool × Wt} {q : Nat → Fr × Bool} {turn : Int} (hq : ∀ n, n < 20 → (q n).2 = true → FrIn (q n).1) (hg : ∀ n, n < 20 → g n = if (q n).2 = true ∧ (q n).1.turn = turn then ((q n).1.tries, (q n).1.last, wtOf (q n).1) else (0, false, wt0)) : ∀ n, n ≤ 20 → trL g n = trP q turn n ∧ 0 ≤ trL g n
  | 0, _ => ⟨rfl, Int.le_refl _⟩
  | n + 1, h => by
    obtain ⟨h1, h2⟩ := Px hq hg n (by omega)
    have h3 := hg n (by omega)
    have ha : trL g (n + 1) = max (trL g n) (g n).1 := rfl
    have hb : trP q turn (n + 1) = if (q n).2 = true ∧ (q n).1.turn = turn then max (trP q turn n) (q n).1.tries else trP q turn n := rfl
    rw [ha, hb, h3]
    split
    · rename_i hc
      have := hq n (by omega) hc.1
      have := this.2.1
      dsimp only
      exact ⟨by rw [h1], by omega⟩
    · dsimp only; omega
theorem FV (q : Nat → Fr × Bool) {n : Nat} (h : n < 20) : (fsP q 20).getD n fr0 = fP q n := by
  unfold fsP
  rw [List.getD_eq_getElem?_getD, List.getElem?_append_left (by simpa using h), List.getElem?_map, List.getElem?_range h]
  rfl
theorem Bf {fs : List Fr} {place n : Nat} (h1 : place ≤ n) (h2 : n < fs.length) : ((fs.drop place).take (n + 1 - place)).map wtOf = ((fs.drop place).take (n - place)).map wtOf ++ [wtOf (fs.getD n fr0)] := by
  rw [show n + 1 - place = (n - place) + 1 by omega, List.take_add_one, List.getElem?_drop, show place + (n - place) = n by omega, List.getElem?_eq_getElem h2, List.map_append, List.getD_eq_getElem?_getD, List.getElem?_eq_getElem h2]
  rfl
theorem MH {g : Nat → Int × Bool × Wt} {q : Nat → Fr × Bool} {turn above : Int} {place : Nat} (hab : 0 ≤ above) (ht : 1 ≤ turn) (hq : ∀ n, n < 20 → (q n).2 = true → FrIn (q n).1)
    (hg : ∀ n, n < 20 → g n = if (q n).2 = true ∧ (q n).1.turn = turn then ((q n).1.tries, (q n).1.last, wtOf (q n).1) else (0, false, wt0)) :
    ∀ (k n : Nat) (own : Int) (out : List Wt), n + k = 20 → ((n = place ∧ own = 0 ∧ out = []) ∨ (place < n ∧ own = ((fsP q 20).getD place fr0).tries ∧ 0 < own ∧ out = (((fsP q 20).drop place).take (n - place)).map wtOf)) →
      aY g above k n own out = if grpP (fsP q 20) turn above place k n = 0 then (0, 0, []) else ((grpP (fsP q 20) turn above place k n : Int), ((fsP q 20).getD place fr0).tries, (((fsP q 20).drop place).take (grpP (fsP q 20) turn above place k n)).map wtOf)
  | 0, n, own, out, _, _ => rfl
  | k + 1, n, own, out, hn, hst => by
    have hlen := o7 q 20 (by omega)
    have hgn := hg n (by omega)
    have hfn := FV q (n := n) (by omega)
    have hpl : place ≤ n := by rcases hst with h | h <;> omega
    have hout : out = (((fsP q 20).drop place).take (n - place)).map wtOf := by
      rcases hst with ⟨rfl, _, rfl⟩ | h
      · rw [Nat.sub_self]; rfl
      · exact h.2.2.2
    have houtl : out.length = n - place := by rw [hout, List.length_map, List.length_take, List.length_drop]; omega
    by_cases hc : (q n).2 = true ∧ (q n).1.turn = turn
    · have hin := (hq n (by omega) hc.1).2.1
      rw [if_pos hc] at hgn
      have hf : (fsP q 20).getD n fr0 = (q n).1 := by rw [hfn]; unfold fP; rw [if_pos hc.1]
      have hcond : ((g n).1 ≤ above ∨ (0 < own ∧ (g n).1 ≠ own)) ↔ (((fsP q 20).getD n fr0).turn ≠ turn ∨ ((fsP q 20).getD n fr0).tries ≤ above ∨ ((fsP q 20).getD n fr0).tries ≠ ((fsP q 20).getD place fr0).tries) := by
        rw [hgn, hf]
        dsimp only
        rcases hst with ⟨rfl, h1, _⟩ | ⟨h0, h1, h2, _⟩
        · rw [hf]; have := hc.2; omega
        · have := hc.2; omega
      unfold aY grpP
      by_cases hx : (g n).1 ≤ above ∨ (0 < own ∧ (g n).1 ≠ own)
      · rw [if_pos hx, if_pos (hcond.1 hx)]; rfl
      · have hx' : ¬ (((fsP q 20).getD n fr0).turn ≠ turn ∨ ((fsP q 20).getD n fr0).tries ≤ above ∨ ((fsP q 20).getD n fr0).tries ≠ ((fsP q 20).getD place fr0).tries) := fun h => hx (hcond.2 h)
        have htr : ((fsP q 20).getD place fr0).tries = (q n).1.tries := by rw [hf] at hx'; omega
        rw [if_neg hx, if_neg hx']
        have hw : wtOf (q n).1 = (g n).2.2 := by rw [hgn]
        have hout1 : out ++ [(g n).2.2] = (((fsP q 20).drop place).take (n + 1 - place)).map wtOf := by rw [Bf hpl (by omega), hf, hout, hw]
        by_cases hl : (g n).2.1 = true
        · have hl' : ((fsP q 20).getD n fr0).last = true := by rw [hf]; rw [hgn] at hl; exact hl
          rw [if_pos hl, if_pos hl', if_neg (by omega), htr, hout1, houtl]
          rw [show (g n).1 = (q n).1.tries by rw [hgn]]
          congr 1
          omega
        · have hl' : ¬ ((fsP q 20).getD n fr0).last = true := by rw [hf]; rw [hgn] at hl; exact hl
          rw [if_neg hl, if_neg hl']
          refine MH hab ht hq hg k (n + 1) _ _ (by omega) (.inr ⟨by omega, ?_, ?_, hout1⟩)
          · rw [htr, hgn]
          · rw [hgn]; dsimp only; omega
    · rw [if_neg hc] at hgn
      have hf : ((fsP q 20).getD n fr0).turn ≠ turn := by
        rw [hfn]
        unfold fP
        split
        · rename_i h; exact fun e => hc ⟨h, e⟩
        · show (0 : Int) ≠ turn; omega
      unfold aY grpP
      rw [if_pos (Or.inl (by rw [hgn]; exact hab)), if_pos (Or.inl hf)]
      rfl
theorem Kt (l : List ByteArray) (fs : List Fr) : aj l (fs.map wtOf) = nC l fs := by
  unfold aj nC
  rw [List.foldl_map]
  rfl
theorem Py {g : Nat → Int × Bool × Wt} {q : Nat → Fr × Bool} {turn : Int} (ht : 1 ≤ turn) (hq : ∀ n, n < 20 → (q n).2 = true → FrIn (q n).1)
    (hg : ∀ n, n < 20 → g n = if (q n).2 = true ∧ (q n).1.turn = turn then ((q n).1.tries, (q n).1.last, wtOf (q n).1) else (0, false, wt0)) :
    ∀ (k next : Nat) (above : Int) (pages : List ByteArray), next ≤ 20 → 0 ≤ above → rdGo g k next above pages = rdP (fsP q 20) turn k next above pages
  | 0, _, _, _, _, _ => rfl
  | k + 1, next, above, pages, hn, hab => by
    unfold rdGo rdP
    have he := MH (place := next) hab ht hq hg (20 - next) next 0 [] (by omega) (.inl ⟨rfl, rfl, rfl⟩)
    have hle := D9 (fs := fsP q 20) (turn := turn) (above := above) (place := next) (20 - next) next (Nat.le_refl _)
    rw [he]
    generalize grpP (fsP q 20) turn above next (20 - next) next = m at hle ⊢
    by_cases hm : m = 0
    · rw [if_pos hm, if_pos hm]; rfl
    · rw [if_neg hm, if_neg hm]
      dsimp only
      rw [if_pos (by omega), Int.toNat_natCast, Kt]
      refine Py ht hq hg k _ _ _ (by omega) ?_
      rw [FV q (by omega)]
      unfold fP
      split
      · rename_i h; have := (hq next (by omega) h).2.1; omega
      · exact Int.le_refl _
theorem Jn (d : Dk) (h : d.cells.length = 42) : dN d = FP d := by
  unfold dN FP
  rw [OG]
  have hb0 := je (d.cells.getD 0 ByteArray.empty) 0
  have hb1 := je (d.cells.getD 1 ByteArray.empty) 1
  have hT : 0 ≤ max (aA (d.cells.getD 0 ByteArray.empty) 0) (aA (d.cells.getD 1 ByteArray.empty) 1) ∧ max (aA (d.cells.getD 0 ByteArray.empty) 0) (aA (d.cells.getD 1 ByteArray.empty) 1) ≤ 99999 := by omega
  generalize max (aA (d.cells.getD 0 ByteArray.empty) 0) (aA (d.cells.getD 1 ByteArray.empty) 1) = turn at hT ⊢
  unfold iC xX
  by_cases h0 : turn = 0
  · rw [if_pos (.inl h0), if_pos (.inl h0)]
  · have ht : 1 ≤ turn ∧ turn ≤ 99999 := by omega
    have hq : ∀ n, n < 20 → (qOf d.cells n).2 = true → FrIn (qOf d.cells n).1 := fun n hn h => Qh hn h
    have hg : ∀ n, n < 20 → gOf d.cells turn n = if (qOf d.cells n).2 = true ∧ (qOf d.cells n).1.turn = turn then ((qOf d.cells n).1.tries, (qOf d.cells n).1.last, wtOf (qOf d.cells n).1) else (0, false, wt0) := fun n hn => Qg ht hn
    rw [xY 20 (fun k hk => OH ht hk), Py ht.1 hq hg 21 0 0 _ (by omega) (by omega), (Px hq hg 20 (by omega)).1]
    have hpl : (rdP (fsP (qOf d.cells) 20) turn 21 0 0 (ay d.cells)).2.length = 20 := by rw [ut]; unfold ay; rw [List.length_take, List.length_drop]; omega
    have hbig : gQ (rdP (fsP (qOf d.cells) 20) turn 21 0 0 (ay d.cells)).2 = (rdP (fsP (qOf d.cells) 20) turn 21 0 0 (ay d.cells)).2.any (fun s => decide (1100 < s.size)) := by
      unfold gQ
      rw [BZ (p := fun s => decide (1100 < s.size)) 20 (by omega), List.take_of_length_le (by omega)]
    rw [hbig]
theorem FW (d : Dk) : 0 ≤ (dN d).1.tries := by
  have key : ∀ (g : Nat → Int × Bool × Wt) (n : Nat), 0 ≤ trL g n := by
    intro g n
    induction n with
    | zero => exact Int.le_refl _
    | succ n ih => have : trL g (n + 1) = max (trL g n) (g n).1 := rfl; omega
  unfold dN iC
  split
  · exact Int.le_refl _
  · split
    · exact Int.le_refl _
    · exact key _ _
theorem iI (s : Stor) : mG s = ag s := by
  unfold mG ag bV
  by_cases hd : dkOk s.disk = true ∧ s.disk.waits.length = 0
  · have hlen : s.disk.cells.length = 42 := by
      have := hd.1
      unfold dkOk at this; simp only [Bool.and_eq_true, decide_eq_true_eq] at this; exact this.1.1.1
    have ht := FW s.disk
    rw [if_pos hd, ← Jn s.disk hlen, decide_eq_decide]
    constructor
    · rintro ⟨h1, h2, h3, h4, h5, h6⟩
      exact ⟨hd.1, hd.2, by omega, h3, h1, h4.symm, h5.symm, h2, h6.symm⟩
    · rintro ⟨_, _, h3, h4, h5, h6, h7, h8, h9⟩
      exact ⟨h5, h8, h4, h6.symm, h7.symm, h9.symm⟩
  · rw [if_neg hd, decide_eq_decide]
    constructor
    · rintro ⟨h1, _⟩; cases h1
    · rintro ⟨h1, h2, _⟩; exact absurd ⟨h1, h2⟩ hd
theorem iY (d : Dk) : bV d = ai d := by
  unfold bV ai
  by_cases hd : dkOk d = true ∧ d.waits.length = 0
  · have hlen : d.cells.length = 42 := by
      have := hd.1
      unfold dkOk at this; simp only [Bool.and_eq_true, decide_eq_true_eq] at this; exact this.1.1.1
    rw [if_pos hd, if_pos hd, Jn d hlen]
  · rw [if_neg hd, if_neg hd]
end Go.Pv
