/- The store's data and what its texts are, with no program in sight. -/
import Derived.Lib.AtoiAll
import Derived.Lib.Split
import Derived.Lib.Join
import Derived.Lib.Strings
import Derived.Lib.IndexMore
import Derived.Lib.ItoaNum
import Derived.Test.YtknciobaifdafaaGreatDoorQF
import Derived.Test.YtknciobaifdafaaGreatDoorQC
set_option linter.unusedVariables false
set_option linter.unusedSimpArgs false
namespace Go.Pv
structure Wt where
  cell : Int
  text : ByteArray
deriving DecidableEq
structure Dk where
  cells : List ByteArray
  waits : List Wt
  room : Int
  left : Int
deriving DecidableEq
structure Stor where
  disk : Dk
  turn : Int
  tries : Int
  next : Int
  pages : List ByteArray
deriving DecidableEq
def ofL (l : List UInt8) : ByteArray := ⟨l.toArray⟩
def itoaB (n : Int) : ByteArray := ⟨(Lib.itoa n).toArray⟩
def cutB (s sep : ByteArray) : ByteArray × ByteArray × Bool := (⟨(Lib.cut s.data.toList sep.data.toList).1.toArray⟩, ⟨(Lib.cut s.data.toList sep.data.toList).2.1.toArray⟩, (Lib.cut s.data.toList sep.data.toList).2.2)
def trimB (s p : ByteArray) : ByteArray := ⟨(Lib.trimPrefix s.data.toList p.data.toList).toArray⟩
def splitL (s sep : ByteArray) : List ByteArray := Lib.splitB sep 0 (Lib.countB s sep) s
def joinB (l : List ByteArray) (sep : ByteArray) : ByteArray := ⟨(Lib.join (l.map (·.data.toList)) sep.data.toList).toArray⟩
def badI (s : ByteArray) : Int := match Lib.atoiAll s.data.toList with | .range => Lib.atoiSat s.data.toList | _ => 0
/-- What the program's own reading of a number is: -1 where there is none. -/
def numI (s : ByteArray) : Int := match Lib.atoiAll s.data.toList with | .ok v => v | _ => -1
def lessOf (n : Int) : Int := if 0 < n then n - 1 else n
def wtOk (x : Wt) : Bool := decide (0 ≤ x.cell ∧ x.cell ≤ 41) && decide (x.text.size ≤ 1200)
def markOf (last : Bool) : ByteArray := if last then ⟨#[33]⟩ else ⟨#[45]⟩
/-- The number that figures are. -/
def digitB (c : UInt8) : Bool := decide (48 ≤ c.toNat ∧ c.toNat ≤ 57)
def valL (l : List UInt8) : Nat := l.foldl (fun n c => n * 10 + (c.toNat - 48)) 0
def numL (l : List UInt8) : Int := if l.all digitB = true ∧ l.length ≤ 9 ∧ l ≠ [] ∧ (1 < l.length → l.getD 0 0 ≠ 48) then valL l else -1
/-- A text cut at a byte. -/
def cutGo (b : UInt8) : Nat → List UInt8 → List UInt8 → List (List UInt8)
  | _, cur, [] => [cur]
  | 0, cur, l => [cur ++ l]
  | k + 1, cur, c :: l => if c = b then cur :: cutGo b k [] l else cutGo b (k + 1) (cur ++ [c]) l
def cutL (s : ByteArray) (b : UInt8) (most : Nat) : List ByteArray := (cutGo b most [] s.data.toList).map ofL
theorem valL_snoc (l : List UInt8) (c : UInt8) : valL (l ++ [c]) = valL l * 10 + (c.toNat - 48) := by simp [valL]
theorem valL_lt : ∀ (l : List UInt8), l.all digitB = true → valL l < 10 ^ l.length := by
  intro l
  have key : ∀ (k : Nat) (l : List UInt8), l.length = k → l.all digitB = true → valL l < 10 ^ k := by
    intro k
    induction k with
    | zero => intro l hl _; rw [List.eq_nil_of_length_eq_zero hl]; simp [valL]
    | succ k ih =>
      intro l hl h
      have hne : l ≠ [] := by intro e; subst e; simp at hl
      rw [← List.dropLast_concat_getLast hne] at h ⊢
      simp only [List.all_append, List.all_cons, List.all_nil, Bool.and_true, Bool.and_eq_true] at h
      rw [valL_snoc]
      have h1 := ih l.dropLast (by simp [hl]) h.1
      have h2 : digitB (l.getLast hne) = true := h.2
      simp only [digitB, decide_eq_true_eq] at h2
      rw [Nat.pow_succ]
      omega
  exact fun h => key _ l rfl h
theorem numL_bad {l : List UInt8} {i : Nat} (hi : i < l.length) (h : digitB (l.getD i 0) = false) : numL l = -1 := by
  unfold numL
  rw [if_neg]
  rintro ⟨h1, -⟩
  have := List.all_eq_true.1 h1 (l.getD i 0) (by rw [List.getD_eq_getElem?_getD, List.getElem?_eq_getElem hi]; exact List.getElem_mem hi)
  rw [h] at this
  cases this
theorem numL_long {l : List UInt8} (h : 9 < l.length) : numL l = -1 := by
  unfold numL
  rw [if_neg]
  rintro ⟨-, h1, -⟩
  omega
theorem take_succ_all {l : List UInt8} {i : Nat} (hi : i < l.length) (h : (l.take i).all digitB = true) (hd : digitB (l.getD i 0) = true) : (l.take (i + 1)).all digitB = true ∧ valL (l.take (i + 1)) = valL (l.take i) * 10 + ((l.getD i 0).toNat - 48) := by
  have e : l.take (i + 1) = l.take i ++ [l.getD i 0] := by
    rw [List.take_add_one, List.getElem?_eq_getElem hi, List.getD_eq_getElem?_getD, List.getElem?_eq_getElem hi]
    rfl
  rw [e]
  exact ⟨by rw [List.all_append, h, List.all_cons, hd]; rfl, valL_snoc _ _⟩
theorem bytes_size (a : Array UInt8) : (ByteArray.mk a).size = a.size := rfl
theorem itoaB_size (n : Int) (h0 : -9223372036854775808 ≤ n) (h1 : n ≤ 9223372036854775807) : (itoaB n).size ≤ 20 := by
  have key : ∀ k : Nat, ∀ u : Nat, u < 10 ^ (k + 1) → Lib.nDigits u ≤ k + 1 := by
    intro k
    induction k with
    | zero => intro u hu; rw [Lib.nDigits_small (by omega)]; omega
    | succ k ih =>
      intro u hu
      rw [Lib.nDigits]
      split
      · omega
      · have := ih (u / 10) (by rw [Nat.pow_succ] at hu; omega)
        omega
  have hd : ∀ u : Nat, u ≤ 9223372036854775808 → (Lib.decDigits u).length ≤ 19 := fun u hu => by rw [Lib.decDigits_length]; exact key 18 u (by omega)
  unfold itoaB Lib.itoa
  show (if n < 0 then 45 :: Lib.decDigits n.natAbs else Lib.decDigits n.toNat).toArray.size ≤ 20
  split
  · have := hd n.natAbs (by omega)
    simp; omega
  · have := hd n.toNat (by omega)
    simp; omega
theorem itoaB_neg {n : Int} (h : n < 0) : itoaB n = (⟨#[45]⟩ : ByteArray) ++ itoaB (-n) := by
  unfold itoaB Lib.itoa
  rw [if_pos h, if_neg (by omega)]
  apply ByteArray.ext
  rw [ByteArray.data_append]
  apply Array.ext'
  rw [Array.toList_append, show (-n).toNat = n.natAbs by omega]
  rfl
def wt0 : Wt := ⟨0, ByteArray.empty⟩
def headB (n : Int) : ByteArray := ⟨#[72]⟩ ++ itoaB n ++ ⟨#[46]⟩ ++ itoaB n ++ ⟨#[59]⟩
def wordsB (turn tries place cell : Int) (last : Bool) (n : Nat) : ByteArray :=
  itoaB turn ++ ⟨#[32]⟩ ++ itoaB tries ++ ⟨#[32]⟩ ++ itoaB place ++ ⟨#[32]⟩ ++ itoaB cell ++ ⟨#[32]⟩ ++ markOf last ++ ⟨#[32]⟩ ++ itoaB n
def frameB (turn tries place cell : Int) (last : Bool) (text : ByteArray) : ByteArray :=
  wordsB turn tries place cell last text.size ++ ⟨#[58]⟩ ++ text ++ ⟨#[58]⟩ ++ itoaB turn ++ ⟨#[46]⟩ ++ itoaB tries ++ ⟨#[59]⟩
structure Fr where
  turn : Int
  tries : Int
  place : Int
  cell : Int
  last : Bool
  text : ByteArray
deriving DecidableEq
def frOf (f : Fr) : ByteArray := frameB f.turn f.tries f.place f.cell f.last f.text
theorem join_words (a b c d e f : ByteArray) : joinB [a, b, c, d, e, f] ⟨#[32]⟩ = a ++ ⟨#[32]⟩ ++ b ++ ⟨#[32]⟩ ++ c ++ ⟨#[32]⟩ ++ d ++ ⟨#[32]⟩ ++ e ++ ⟨#[32]⟩ ++ f := by
  unfold joinB
  apply ByteArray.ext
  apply Array.ext'
  simp [Lib.join, List.intercalate, ByteArray.data_append]
theorem cutGo_len {b : UInt8} : ∀ (l : List UInt8) (k : Nat) (cur : List UInt8), 0 < (cutGo b k cur l).length ∧ ∀ x ∈ cutGo b k cur l, x.length ≤ cur.length + l.length
  | [], k, cur => by simp [cutGo]
  | c :: l, 0, cur => by simp [cutGo]
  | c :: l, k + 1, cur => by
    simp only [cutGo]
    split
    · refine ⟨by simp, fun x hx => ?_⟩
      cases hx with
      | head => simp
      | tail _ hx => have := (cutGo_len l k []).2 x hx; simp at this ⊢; omega
    · refine ⟨(cutGo_len l (k + 1) _).1, fun x hx => ?_⟩
      have := (cutGo_len l (k + 1) _).2 x hx
      simp at this ⊢; omega
theorem cutL_pos (s : ByteArray) (b : UInt8) (k : Nat) : 0 < (cutL s b k).length := by unfold cutL; rw [List.length_map]; exact (cutGo_len _ _ _).1
theorem cutL_size (s : ByteArray) (b : UInt8) (k j : Nat) : ((cutL s b k).getD j ByteArray.empty).size ≤ s.size := by
  rw [List.getD_eq_getElem?_getD]
  cases h : (cutL s b k)[j]? with
  | none => exact Nat.zero_le _
  | some x =>
    have hx := List.mem_of_getElem? h
    unfold cutL at hx
    obtain ⟨y, hy, rfl⟩ := List.mem_map.1 hx
    have := (cutGo_len s.data.toList k []).2 y hy
    have e : (ofL y).size = y.length := by show y.toArray.size = _; simp
    have hz : s.data.toList.length = s.size := rfl
    simp only [Option.getD_some, List.length_nil] at this ⊢
    omega
def sizes6 (l : List ByteArray) : Nat := (l.getD 0 ByteArray.empty).size + (l.getD 1 ByteArray.empty).size + (l.getD 2 ByteArray.empty).size + (l.getD 3 ByteArray.empty).size + (l.getD 4 ByteArray.empty).size + (l.getD 5 ByteArray.empty).size + 6
def numAt (l : List ByteArray) (k : Nat) : Int := numL (l.getD k ByteArray.empty).data.toList
def partsOf (s : ByteArray) : List ByteArray := cutL ((cutL s 58 1).getD 0 ByteArray.empty) 32 5
/-- What the reference reads of a frame's text. -/
def getL (s : ByteArray) (turn place : Int) (l : List ByteArray) : Int × Bool × Wt :=
  if l.length ≠ 6 then (0, false, wt0)
  else if ¬ (1 ≤ numAt l 1 ∧ numAt l 1 ≤ 99) ∨ ¬ (0 ≤ numAt l 3 ∧ numAt l 3 ≤ 19) ∨ ¬ (0 ≤ numAt l 5 ∧ numAt l 5 ≤ 1100) ∨ (s.size : Int) < sizes6 l + numAt l 5 then (0, false, wt0)
  else if frameB turn (numAt l 1) place (numAt l 3) (decide (l.getD 4 ByteArray.empty = ⟨#[33]⟩)) (s.extract (sizes6 l) (sizes6 l + (numAt l 5).toNat)) ≠ s then (0, false, wt0)
  else (numAt l 1, decide (l.getD 4 ByteArray.empty = ⟨#[33]⟩), ⟨numAt l 3, s.extract (sizes6 l) (sizes6 l + (numAt l 5).toNat)⟩)
def getOf (s : ByteArray) (turn place : Int) : Int × Bool × Wt := getL s turn place (partsOf s)
theorem cutB_size1 (s sep : ByteArray) : (cutB s sep).1.size ≤ s.size := by
  show (Lib.cut s.data.toList sep.data.toList).1.toArray.size ≤ s.data.toList.length
  unfold Lib.cut
  split <;> simp
  exact Nat.min_le_right ..
theorem cutB_size2 (s sep : ByteArray) : (cutB s sep).2.1.size ≤ s.size := by
  show (Lib.cut s.data.toList sep.data.toList).2.1.toArray.size ≤ s.data.toList.length
  unfold Lib.cut
  split <;> simp
theorem trimB_size (s p : ByteArray) : (trimB s p).size ≤ s.size := by
  have := Lib.trimPrefix_le s.data.toList p.data.toList
  show (Lib.trimPrefix s.data.toList p.data.toList).toArray.size ≤ s.data.toList.length
  simpa using this
theorem splitB_size (sep : ByteArray) : ∀ (k : Nat) (s x : ByteArray), x ∈ Lib.splitB sep 0 k s → x.size ≤ s.size
  | 0, s, x, h => by rw [Lib.splitB_zero] at h; rw [List.mem_singleton.1 h]; exact Nat.le_refl _
  | k + 1, s, x, h => by
    unfold Lib.splitB at h
    split at h
    · rw [List.mem_singleton.1 h]; exact Nat.le_refl _
    · rcases List.mem_cons.1 h with rfl | h
      · rw [ByteArray.size_extract]; omega
      · have := splitB_size sep k _ x h
        rw [ByteArray.size_extract] at this
        omega
theorem splitL_size (s sep : ByteArray) (k : Nat) : ((splitL s sep).getD k ByteArray.empty).size ≤ s.size := by
  rw [List.getD_eq_getElem?_getD]
  cases h : (splitL s sep)[k]? with
  | none => exact Nat.zero_le _
  | some x => exact splitB_size _ _ _ _ (List.mem_of_getElem? h)
theorem splitL_pos (s sep : ByteArray) : 0 < (splitL s sep).length := by
  unfold splitL Lib.splitB
  split <;> simp
  split <;> simp
def fr0 : Fr := ⟨0, 0, 0, 0, false, ByteArray.empty⟩
/-- What the program reads of a frame's text: its words, what stands behind them. -/
def frL (s rest : ByteArray) (place : Int) (w : List ByteArray) : Fr × Bool :=
  if w.length ≠ 6 then (fr0, false)
  else if ¬ (1 ≤ numI (w.getD 0 ByteArray.empty) ∧ numI (w.getD 0 ByteArray.empty) ≤ 99999) ∨ ¬ (1 ≤ numI (w.getD 1 ByteArray.empty) ∧ numI (w.getD 1 ByteArray.empty) ≤ 99) ∨ numI (w.getD 2 ByteArray.empty) ≠ place ∨
    ¬ (0 ≤ numI (w.getD 3 ByteArray.empty) ∧ numI (w.getD 3 ByteArray.empty) ≤ 19) ∨ ¬ (0 ≤ numI (w.getD 5 ByteArray.empty) ∧ numI (w.getD 5 ByteArray.empty) ≤ 1100 ∧ numI (w.getD 5 ByteArray.empty) ≤ rest.size) then (fr0, false)
  else
    (⟨numI (w.getD 0 ByteArray.empty), numI (w.getD 1 ByteArray.empty), numI (w.getD 2 ByteArray.empty), numI (w.getD 3 ByteArray.empty), decide (w.getD 4 ByteArray.empty = ⟨#[33]⟩), rest.extract 0 (numI (w.getD 5 ByteArray.empty)).toNat⟩,
      decide (frOf ⟨numI (w.getD 0 ByteArray.empty), numI (w.getD 1 ByteArray.empty), numI (w.getD 2 ByteArray.empty), numI (w.getD 3 ByteArray.empty), decide (w.getD 4 ByteArray.empty = ⟨#[33]⟩), rest.extract 0 (numI (w.getD 5 ByteArray.empty)).toNat⟩ = s))
def frGet (s : ByteArray) (place : Int) : Fr × Bool := frL s (cutB s ⟨#[58]⟩).2.1 place (splitL (cutB s ⟨#[58]⟩).1 ⟨#[32]⟩)
/-- The turn that the reference reads of a head. -/
def turnN (s : ByteArray) (place n : Int) : Int := if 1 ≤ n ∧ n ≤ 99999 ∧ n.tmod 2 = place ∧ headB n = s then n else 0
def turnL (s : ByteArray) (place : Int) : Int := if 2 ≤ s.size ∧ s.data.toList.getD 0 0 = 72 then turnN s place (numL ((cutL (s.extract 1 s.size) 46 1).getD 0 ByteArray.empty).data.toList) else 0
/-- The turn that the program reads of a head. -/
def turnM (s : ByteArray) (n : Int) : Int := if 1 ≤ n ∧ n ≤ 99999 ∧ headB n = s then n else 0
def turnI (s : ByteArray) : Int := turnM s (numI (cutB (trimB s ⟨#[72]⟩) ⟨#[46]⟩).1)
/-- What the reference reads of the log at a turn. -/
def gOf (c : List ByteArray) (turn : Int) (n : Nat) : Int × Bool × Wt := getOf (c.getD (22 + n) ByteArray.empty) turn n
/-- A group of frames. -/
def grpGo (g : Nat → Int × Bool × Wt) (above : Int) : Nat → Nat → Int → List Wt → Int × Int × List Wt
  | 0, _, _, _ => (0, 0, [])
  | k + 1, n, own, out =>
    if (g n).1 ≤ above ∨ (0 < own ∧ (g n).1 ≠ own) then (0, 0, [])
    else if (g n).2.1 = true then ((out.length : Int) + 1, (g n).1, out ++ [(g n).2.2])
    else grpGo g above k (n + 1) (g n).1 (out ++ [(g n).2.2])
def putPs (l : List ByteArray) (ws : List Wt) : List ByteArray := ws.foldl (fun out x => out.set x.cell.toNat x.text) l
def trL (g : Nat → Int × Bool × Wt) : Nat → Int
  | 0 => 0
  | n + 1 => max (trL g n) (g n).1
def anyTo (f : Nat → Bool) : Nat → Bool
  | 0 => false
  | n + 1 => anyTo f n || f n
theorem anyTo_hit {f : Nat → Bool} : ∀ {n k : Nat}, k < n → f k = true → anyTo f n = true
  | 0, _, h, _ => absurd h (Nat.not_lt_zero _)
  | n + 1, k, h, hf => by
    unfold anyTo
    by_cases e : k = n
    · subst e; rw [hf, Bool.or_true]
    · rw [anyTo_hit (by omega) hf, Bool.true_or]
def ownAt (c : List ByteArray) (n : Nat) : Int := numL ((cutL (c.getD (22 + n) ByteArray.empty) 32 1).getD 0 ByteArray.empty).data.toList
def lateAt (c : List ByteArray) (turn : Int) (n : Nat) : Bool := decide (0 < (getOf (c.getD (22 + n) ByteArray.empty) (ownAt c n) n).1 ∧ turn < ownAt c n ∧ ownAt c n ≤ 99999)
theorem numL_in (l : List UInt8) : -1 ≤ numL l ∧ numL l ≤ 999999999 := by
  unfold numL
  split
  · rename_i h
    have h1 := valL_lt l h.1
    have h2 : 10 ^ l.length ≤ 10 ^ 9 := Nat.pow_le_pow_right (by omega) h.2.1
    omega
  · omega
def dkOk (d : Dk) : Bool := decide (d.cells.length = 42 ∧ d.waits.length ≤ 100 ∧ -1 ≤ d.room ∧ -1 ≤ d.left) && d.cells.all (fun s => decide (s.size ≤ 1200)) && d.waits.all wtOk
end Go.Pv

/- The store's data, and how its values look to the walks. -/
set_option linter.unusedVariables false
set_option linter.unusedSimpArgs false
namespace Go.Pv
abbrev vI (n : Int) : PV := .b (.int .i64 n)
abbrev vB (b : Bool) : PV := .b (.bool b)
abbrev cWt (x : Wt) : List PV := [vI x.cell, vS x.text]
abbrev vWt (x : Wt) : PV := .agg [vI x.cell, vS x.text]
abbrev vWts (l : List Wt) : PV := .val l.length (l.flatMap cWt)
abbrev vDk (d : Dk) : PV := .agg [.val d.cells.length (d.cells.map vS), .val d.waits.length (d.waits.flatMap cWt), vI d.room, vI d.left]
abbrev vStor (s : Stor) : PV := .agg [.val s.disk.cells.length (s.disk.cells.map vS), .val s.disk.waits.length (s.disk.waits.flatMap cWt), vI s.disk.room, vI s.disk.left, vI s.turn, vI s.tries, vI s.next, .val s.pages.length (s.pages.map vS)]
theorem tdiv_wrap {n k : Nat} (h : (n : Int) ≤ 9223372036854775807) : IntKind.i64.wrap ((n : Int).tdiv k) = ((n / k : Nat) : Int) := by
  have e : (n : Int).tdiv k = ((n / k : Nat) : Int) := by rw [Int.tdiv_eq_ediv_of_nonneg (by omega)]; simp
  have hle : n / k ≤ n := Nat.div_le_self ..
  generalize n / k = q at e hle
  rw [e, wrap_id (by omega) (by omega)]
theorem itoaB_small {n : Nat} (h : n < 10) : itoaB n = ofInts [((48 + n : Nat) : Int)] := by
  unfold itoaB Lib.itoa
  rw [if_neg (by omega), Int.toNat_natCast, Lib.decDigits_one h]
  rfl
theorem u8wrap {n : Nat} (h : n < 256) : IntKind.u8.wrap n = n := by
  have : IntKind.u8.wrap (n : Int) = (n : Int) % 256 := by simp [IntKind.wrap, IntKind.bits, IntKind.signed]
  omega
theorem ofInts_size (l : List Int) : (ofInts l).size = l.length := by
  have key : ∀ (l : List Int) (b : ByteArray), (l.foldl (fun r n => r.push (UInt8.ofNat n.toNat)) b).size = b.size + l.length := by
    intro l
    induction l with
    | nil => intro b; rfl
    | cons x l ih => intro b; rw [List.foldl_cons, ih, ByteArray.size_push, List.length_cons]; omega
  have := key l ByteArray.empty
  unfold ofInts
  simpa using this
theorem itoaB_step {n : Nat} (h : 10 ≤ n) : itoaB n = itoaB (n / 10 : Nat) ++ ofInts [((48 + n % 10 : Nat) : Int)] := by
  unfold itoaB Lib.itoa
  rw [if_neg (by omega), if_neg (by omega), Int.toNat_natCast, Int.toNat_natCast, Lib.decDigits, dif_neg (by omega)]
  apply ByteArray.ext
  rw [ByteArray.data_append]
  have e : ((48 + n % 10 : Nat) : Int).toNat = 48 + n % 10 := Int.toNat_natCast _
  simp only [ofInts, List.foldl_cons, List.foldl_nil, e]
  apply Array.ext'
  rw [Array.toList_append]
  rfl
variable {P : Program}
theorem cln_wts {n : Nat} {l : List Wt} : Cln P (.val n (l.flatMap cWt)) := Cln.val (by
  intro x hx
  simp only [List.mem_flatMap, List.mem_cons, List.not_mem_nil, or_false] at hx
  obtain ⟨_, _, rfl | rfl⟩ := hx <;> exact Cln.b _)
def Flat (P : Program) (xs : List PV) : Prop := ∀ x ∈ xs, Cln P x ∧ ((∃ v, x = .b v) ∨ ∃ n ys, x = .val n ys)
theorem flat_b {v : Value} : Cln P (.b v) ∧ ((∃ u, PV.b v = .b u) ∨ ∃ n ys, PV.b v = .val n ys) := ⟨Cln.b v, .inl ⟨v, rfl⟩⟩
theorem flat_strs {l : List ByteArray} : Flat P (l.map vS) := fun x hx => by
  simp only [List.mem_map] at hx
  obtain ⟨y, _, rfl⟩ := hx
  exact flat_b
theorem flat_wts {l : List Wt} : Flat P (l.flatMap cWt) := fun x hx => by
  simp only [List.mem_flatMap, List.mem_cons, List.not_mem_nil, or_false] at hx
  obtain ⟨_, _, rfl | rfl⟩ := hx <;> exact flat_b
theorem flat_nil : Flat P [] := fun x hx => by cases hx
theorem Flat.cons {x : PV} {xs : List PV} (h1 : Cln P x ∧ ((∃ v, x = .b v) ∨ ∃ n ys, x = .val n ys)) (h2 : Flat P xs) : Flat P (x :: xs) := fun y hy => by
  rcases List.mem_cons.1 hy with rfl | hy
  · exact h1
  · exact h2 y hy
theorem flat_vstrs {n : Nat} {l : List ByteArray} : Cln P (.val n (l.map vS)) ∧ ((∃ v, PV.val n (l.map vS) = .b v) ∨ ∃ n' ys, PV.val n (l.map vS) = .val n' ys) := ⟨cln_strs, .inr ⟨_, _, rfl⟩⟩
theorem flat_vwts {n : Nat} {l : List Wt} : Cln P (.val n (l.flatMap cWt)) ∧ ((∃ v, PV.val n (l.flatMap cWt) = .b v) ∨ ∃ n' ys, PV.val n (l.flatMap cWt) = .val n' ys) := ⟨cln_wts, .inr ⟨_, _, rfl⟩⟩
theorem flat_all2 {κ : Nat → Option Nat} {mem : Mem} : ∀ {xs : List PV}, Flat P xs → All2 (vwC P κ mem) xs xs
  | [], _ => trivial
  | x :: xs, h => ⟨by
      obtain ⟨hc, ⟨v, rfl⟩ | ⟨n, ys, rfl⟩⟩ := h x (List.mem_cons_self ..)
      · exact vwC_b v
      · exact ⟨hc, rfl⟩, flat_all2 fun y hy => h y (List.mem_cons_of_mem _ hy)⟩
theorem Flat.cln {xs : List PV} (h : Flat P xs) : ∀ x ∈ xs, Cln P x := fun x hx => (h x hx).1
theorem Weak.rows {R : Nat → Prop} {s t : St} (E : List Kept) (h1 : (E.map (·.old)).Nodup) (h2 : (E.map (·.new)).Nodup) (h3 : ∀ e ∈ E, s.mem e.old = .row e.t e.xs ∧ Flat P e.xs)
    (h4 : t.mem = keptMem E) (h5 : All2 (vw P (kap E) s.mem) s.tmps t.tmps) (hR : ∀ i, R i → kap E i = some i) : Weak P R s t :=
  Weak.intro E h1 h2 (fun e he => ⟨e.xs, (h3 e he).1, flat_all2 (h3 e he).2⟩) h4 h5 hR
theorem getD_of_lt {l : List ByteArray} {k : Nat} (h : k < l.length) : l[k] = l.getD k ByteArray.empty := by simp [h]
theorem load_strs {l : List ByteArray} {k n : Nat} {z : Option (List Value)} {K : PV → Prop} (h : k < l.length) (hK : K (vS (l.getD k ByteArray.empty))) : loadPV ⟨false, 1, n, z⟩ ((l.map vS).drop k) K :=
  load_map h (by rw [getD_of_lt h]; exact hK)
theorem load_wts {l : List Wt} {k n : Nat} {z : Option (List Value)} {K : PV → Prop} (h : k < l.length) (hK : K (vWt (l.getD k wt0))) : loadPV ⟨true, 2, n, z⟩ ((l.flatMap cWt).drop (k * 2)) K :=
  loadPV_drop (g := cWt) (fun _ => rfl) h (by have e : l[k] = l.getD k wt0 := by simp [h]
                                              rw [e]; exact hK)
theorem Out.val {k n n' : Nat} {t : TypeId} {xs ys : List PV} {m : Mem} (hk : m k = .row t xs) (hf : Flat P xs) (hx : xs = ys) (hn : n = n') : Out P (.val n' ys) [] (.ref k 0 n) m := by
  subst hx; subst hn
  refine Weak.intro [] (by simp) (by simp) (by simp) rfl ⟨?_, trivial⟩ (fun _ h => h.elim)
  show vwC P (kap []) m (.ref k 0 n) (.val n xs)
  simp only [vwC, kap, hk, List.drop_zero]
  exact ⟨hf.cln, trivial⟩
theorem Out.val3 {a b : Int} {k n n' : Nat} {t : TypeId} {xs ys : List PV} {m : Mem} (hk : m k = .row t xs) (hf : Flat P xs) (hx : xs = ys) (hn : n = n') : Out P (.tup [vI a, vI b, .val n' ys]) [] (.tup [vI a, vI b, .ref k 0 n]) m := by
  subst hx; subst hn
  refine Weak.intro [] (by simp) (by simp) (by simp) rfl ⟨?_, trivial⟩ (fun _ h => h.elim)
  have e1 : ∀ z : Int, vwA P (kap []) m (vI z) (vI z) := fun z => vwC_b (κ := kap []) (mem := m) (.int .i64 z)
  refine ⟨e1 a, e1 b, ?_, trivial⟩
  show vwC P (kap []) m (.ref k 0 n) (.val n xs)
  simp only [vwC, kap, hk, List.drop_zero]
  exact ⟨hf.cln, trivial⟩
theorem len_wts {l : List Wt} : (l.flatMap cWt).length = l.length * 2 := by
  induction l with
  | nil => rfl
  | cons x l ih => simp only [List.flatMap_cons, List.length_append, ih, List.length_cons, List.length_nil]; omega
theorem load_strs0 {l : List ByteArray} {n : Nat} {z : Option (List Value)} {K : PV → Prop} (h : 0 < l.length) (hK : K (vS (l.getD 0 ByteArray.empty))) : loadPV ⟨false, 1, n, z⟩ (l.map vS) K := load_strs (k := 0) h hK
theorem load_wts0 {l : List Wt} {n : Nat} {z : Option (List Value)} {K : PV → Prop} (h : 0 < l.length) (hK : K (vWt (l.getD 0 wt0))) : loadPV ⟨true, 2, n, z⟩ (l.flatMap cWt) K := load_wts (k := 0) h hK
theorem take_strs {l : List ByteArray} : List.take l.length (List.map vS l) = List.map vS l := List.take_of_length_le (by simp)
theorem take_wts {l : List Wt} : List.take (l.length * 2) (List.flatMap cWt l) = List.flatMap cWt l := List.take_of_length_le (by rw [len_wts]; exact Nat.le_refl _)
theorem all_strs {l : List ByteArray} : (List.map vS l).all storable = true := by
  simp only [List.all_map, List.all_eq_true]
  exact fun _ _ => rfl
theorem all_wts {l : List Wt} : (List.flatMap cWt l).all storable = true := by
  induction l with
  | nil => rfl
  | cons x l ih => rw [List.flatMap_cons, List.all_append, ih]; rfl
theorem HOk.err : HOk P .err := .inr (.inr Cln.err)
theorem hok_strs {n : Nat} {l : List ByteArray} : HOk P (.val n (l.map vS)) := .inr (.inr cln_strs)
theorem hok_wts {n : Nat} {l : List Wt} : HOk P (.val n (l.flatMap cWt)) := .inr (.inr cln_wts)
theorem cln_nil : ∀ x ∈ ([] : List PV), Cln P x := fun x hx => by cases hx
theorem shC_strs {k : Nat} {l : List ByteArray} : List.map (shC k) (List.map vS l) = List.map vS l := by
  rw [List.map_map]; rfl
theorem shC_wts {k : Nat} {l : List Wt} : List.map (shC k) (List.flatMap cWt l) = List.flatMap cWt l := by
  induction l with
  | nil => rfl
  | cons x l ih => rw [List.flatMap_cons, List.map_append, ih]; rfl
end Go.Pv

/- The store's data, more. -/
set_option linter.unusedVariables false
set_option linter.unusedSimpArgs false
namespace Go.Pv
variable {P : Program}
theorem clean_wts {n : Nat} {l : List Wt} : Cln P (.val n (l.flatMap cWt)) = True := eq_true cln_wts
theorem drop_wts {l : List Wt} {k : Nat} (h : k < l.length) : (l.flatMap cWt).drop (k * 2) = vI (l.getD k wt0).cell :: vS (l.getD k wt0).text :: (l.flatMap cWt).drop (k * 2 + 2) := by
  induction l generalizing k with
  | nil => exact absurd h (Nat.not_lt_zero _)
  | cons x l ih =>
    cases k with
    | zero => rfl
    | succ k =>
      have := ih (k := k) (by simpa using h)
      rw [show (k + 1) * 2 = k * 2 + 2 by omega]
      exact this
theorem load_wtc {l : List Wt} {k n : Nat} {z : Option (List Value)} {K : PV → Prop} (h : k < l.length) (hK : K (vI (l.getD k wt0).cell)) : loadPV ⟨false, 1, n, z⟩ ((l.flatMap cWt).drop (k * 2)) K := by
  rw [drop_wts h, loadPV_one]; exact hK
theorem load_wtt {l : List Wt} {k n : Nat} {z : Option (List Value)} {K : PV → Prop} (h : k < l.length) (hK : K (vS (l.getD k wt0).text)) : loadPV ⟨false, 1, n, z⟩ ((l.flatMap cWt).drop (k * 2 + 1)) K := by
  rw [← List.drop_drop, drop_wts h, List.drop_succ_cons, List.drop_zero, loadPV_one]; exact hK
theorem load_wtt' {l : List Wt} {k n : Nat} {z : Option (List Value)} {K : PV → Prop} (h : k < l.length) (hK : K (vS (l.getD k wt0).text)) : loadPV ⟨false, 1, n, z⟩ (((l.flatMap cWt).drop (k * 2)).drop 1) K := by
  rw [drop_wts h, List.drop_succ_cons, List.drop_zero, loadPV_one]; exact hK
theorem set_strs {l : List ByteArray} {k : Nat} {s : ByteArray} : (l.map vS).set k (vS s) = (l.set k s).map vS := by rw [List.map_set]
theorem rows_strs {t : TypeId} {l : List ByteArray} : ∀ z ∈ ((t, l.map vS) : TypeId × List PV).2, HOk P z := fun z hz => by
  simp only [List.mem_map] at hz
  obtain ⟨y, _, rfl⟩ := hz
  exact HOk.b _
theorem rows_wts {t : TypeId} {l : List Wt} : ∀ z ∈ ((t, l.flatMap cWt) : TypeId × List PV).2, HOk P z := fun z hz => by
  simp only [List.mem_flatMap, List.mem_cons, List.not_mem_nil, or_false] at hz
  obtain ⟨_, _, rfl | rfl⟩ := hz <;> exact HOk.b _
theorem rows_none : ∀ e ∈ ([] : List (TypeId × List PV)), ∀ z ∈ e.2, HOk P z := fun e he => by cases he
theorem clnM_wts {l : List Wt} : (∀ (z : PV) (x : Wt), x ∈ l → z = vI x.cell ∨ z = .b (.string x.text) → Cln P z) = True := eq_true fun z x _ h => by
  rcases h with rfl | rfl <;> exact Cln.b _
end Go.Pv

/- The laws' helpers: data. -/
set_option linter.unusedVariables false
set_option linter.unusedSimpArgs false
namespace Go.Pv
variable {P : Program}
def wTo (n : Nat) (sz : Nat → Nat) : Nat → Int
  | 0 => n
  | i + 1 => wTo n sz i + sz i
theorem wTo_ge (n : Nat) (sz : Nat → Nat) : ∀ i, (n : Int) ≤ wTo n sz i
  | 0 => Int.le_refl _
  | i + 1 => by have := wTo_ge n sz i; unfold wTo; omega
theorem wTo_le (n : Nat) (sz : Nat → Nat) (i : Nat) : ∀ j, i ≤ j → wTo n sz i ≤ wTo n sz j
  | 0, h => by rw [Nat.le_zero.1 h]; exact Int.le_refl _
  | j + 1, h => by
    rcases Nat.lt_or_ge i (j + 1) with h' | h'
    · have := wTo_le n sz i j (by omega)
      have hst : wTo n sz (j + 1) = wTo n sz j + sz j := rfl
      omega
    · rw [show i = j + 1 by omega]; exact Int.le_refl _
def sub (left w : Int) : Int := if w ≤ left then left - w else -1
def wS (l : List ByteArray) : Int := wTo l.length (fun k => (l.getD k ByteArray.empty).size) l.length
def wW (l : List Wt) : Int := wTo l.length (fun k => (l.getD k wt0).text.size) l.length
/-- What a reader finds of a disk is no longer than a machine's memory. -/
def DkIn (d : Dk) : Prop := d.cells.length ≤ 9223372036854775807 ∧ (∀ k, (d.cells.getD k ByteArray.empty).size ≤ 9223372036854775807) ∧ d.waits.length ≤ 9223372036854775807 ∧ (∀ k, (d.waits.getD k wt0).text.size ≤ 9223372036854775807)
theorem zrep_strs : ∀ n : Nat, zrep n [.b (.string ByteArray.empty)] = (List.replicate n ByteArray.empty).map vS
  | 0 => rfl
  | n + 1 => by rw [zrep, zrep_strs n]; rfl
theorem zrep_wts : ∀ n : Nat, zrep n [.b (.int .i64 0), .b (.string ByteArray.empty)] = (List.replicate n wt0).flatMap cWt
  | 0 => rfl
  | n + 1 => by rw [zrep, zrep_wts n]; rfl
theorem sets_wts {l : List Wt} {i : Nat} {f : Wt} (h : i < l.length) : ((l.flatMap cWt).set (i * 2) (vI f.cell)).set (i * 2 + 1) (vS f.text) = (l.set i f).flatMap cWt := by
  induction l generalizing i with
  | nil => exact absurd h (Nat.not_lt_zero _)
  | cons x l ih =>
    cases i with
    | zero => rfl
    | succ i =>
      have := ih (i := i) (by simpa using h)
      rw [show (i + 1) * 2 = i * 2 + 2 by omega, List.set_cons_succ, List.flatMap_cons (xs := l.set i f), ← this]
      rfl
/-- The first i of a list, the rest of it not yet written. -/
def prt {α : Type} (l : List α) (z : α) (i : Nat) : List α := l.take i ++ List.replicate (l.length - i) z
theorem prt_zero {α : Type} (l : List α) (z : α) : prt l z 0 = List.replicate l.length z := rfl
theorem prt_all {α : Type} (l : List α) (z : α) : prt l z l.length = l := by unfold prt; simp
theorem prt_length {α : Type} (l : List α) (z : α) (i : Nat) (h : i ≤ l.length) : (prt l z i).length = l.length := by unfold prt; simp; omega
theorem prt_succ {α : Type} (l : List α) (z d : α) {i : Nat} (h : i < l.length) : prt l z (i + 1) = (prt l z i).set i (l.getD i d) := by
  unfold prt
  rw [List.set_append_right _ _ (by simp; omega), List.take_add_one, List.getElem?_eq_getElem h, List.getD_eq_getElem?_getD, List.getElem?_eq_getElem h, List.append_assoc]
  congr 1
  rw [List.length_take, Nat.min_eq_left (by omega), Nat.sub_self, show l.length - i = (l.length - (i + 1)) + 1 by omega, List.replicate_succ, List.set_cons_zero]
  rfl
theorem wS_len (l : List ByteArray) : (l.length : Int) ≤ wS l := wTo_ge _ _ _
theorem wW_len (l : List Wt) : (l.length : Int) ≤ wW l := wTo_ge _ _ _
end Go.Pv

/- What the reference reads of a disk, with no program in sight. -/
set_option linter.unusedVariables false
set_option linter.unusedSimpArgs false
namespace Go.Pv
/-- The groups of the log, one behind the other: where the last ends, and the pages. -/
def rdGo (g : Nat → Int × Bool × Wt) : Nat → Nat → Int → List ByteArray → Nat × List ByteArray
  | 0, next, _, pages => (next, pages)
  | k + 1, next, above, pages =>
    if 0 < (grpGo g above (20 - next) next 0 []).1 then rdGo g k (next + (grpGo g above (20 - next) next 0 []).1.toNat) (grpGo g above (20 - next) next 0 []).2.1 (putPs pages (grpGo g above (20 - next) next 0 []).2.2)
    else (next, pages)
def stor0 : Stor := ⟨⟨[], [], 0, 0⟩, 0, 0, 0, []⟩
def pagesOf (c : List ByteArray) : List ByteArray := (c.drop 2).take 20
def bigPage (l : List ByteArray) : Bool := anyTo (fun k => decide (1100 < (l.getD k ByteArray.empty).size)) 20
/-- What the reference reads of a disk whose greatest turn is that. -/
def readT (d : Dk) (turn : Int) : Stor × Bool :=
  if turn = 0 ∨ anyTo (lateAt d.cells turn) 20 = true then (stor0, false)
  else if bigPage (rdGo (gOf d.cells turn) 21 0 0 (pagesOf d.cells)).2 = true then (stor0, false)
  else (⟨d, turn, trL (gOf d.cells turn) 20, (rdGo (gOf d.cells turn) 21 0 0 (pagesOf d.cells)).1, (rdGo (gOf d.cells turn) 21 0 0 (pagesOf d.cells)).2⟩, true)
def readD (d : Dk) : Stor × Bool := readT d (max (turnL (d.cells.getD 0 ByteArray.empty) 0) (turnL (d.cells.getD 1 ByteArray.empty) 1))
def storeRead (d : Dk) : Stor × Bool := if dkOk d = true ∧ d.waits.length = 0 then readD d else (stor0, false)
def storeOk (s : Stor) : Bool := decide (dkOk s.disk = true ∧ s.disk.waits.length = 0 ∧ 0 ≤ s.tries ∧ s.tries ≤ 99 ∧ (readD s.disk).2 = true ∧ (readD s.disk).1.turn = s.turn ∧ (readD s.disk).1.next = s.next ∧ (readD s.disk).1.tries ≤ s.tries ∧ (readD s.disk).1.pages = s.pages)
theorem grpGo_le {g : Nat → Int × Bool × Wt} {above : Int} : ∀ (k n : Nat) (own : Int) (out : List Wt), 0 ≤ (grpGo g above k n own out).1 ∧ (grpGo g above k n own out).1 ≤ out.length + k ∧ ((grpGo g above k n own out).2.2.length : Int) = (grpGo g above k n own out).1
  | 0, n, own, out => by simp only [grpGo, List.length_nil]; omega
  | k + 1, n, own, out => by
    unfold grpGo
    split
    · simp only [List.length_nil]; omega
    · split
      · simp only [List.length_append, List.length_cons, List.length_nil]; omega
      · have := grpGo_le (g := g) (above := above) k (n + 1) (g n).1 (out ++ [(g n).2.2])
        simp only [List.length_append, List.length_cons, List.length_nil] at this
        omega
theorem grpGo_cells {g : Nat → Int × Bool × Wt} {above : Int} (hg : ∀ n, 0 ≤ (g n).2.2.cell ∧ (g n).2.2.cell ≤ 19) : ∀ (k n : Nat) (own : Int) (out : List Wt), (∀ x ∈ out, 0 ≤ x.cell ∧ x.cell ≤ 19) → ∀ x ∈ (grpGo g above k n own out).2.2, 0 ≤ x.cell ∧ x.cell ≤ 19
  | 0, n, own, out, _ => by simp [grpGo]
  | k + 1, n, own, out, h => by
    have h' : ∀ x ∈ out ++ [(g n).2.2], 0 ≤ x.cell ∧ x.cell ≤ 19 := fun x hx => by
      rcases List.mem_append.1 hx with hx | hx
      · exact h x hx
      · rw [List.mem_singleton.1 hx]; exact hg n
    unfold grpGo
    split
    · simp
    · split
      · exact h'
      · exact grpGo_cells hg k (n + 1) (g n).1 _ h'
theorem gOf_cells (c : List ByteArray) (turn : Int) (n : Nat) : 0 ≤ (gOf c turn n).2.2.cell ∧ (gOf c turn n).2.2.cell ≤ 19 := by
  unfold gOf getOf getL
  split
  · simp [wt0]
  · split
    · simp [wt0]
    · split
      · simp [wt0]
      · dsimp only; omega
theorem gOf_try (c : List ByteArray) (turn : Int) (n : Nat) : 0 ≤ (gOf c turn n).1 ∧ (gOf c turn n).1 ≤ 99 := by
  unfold gOf getOf getL
  split
  · simp
  · split
    · simp
    · split
      · simp
      · dsimp only; omega
theorem grpGo_own {g : Nat → Int × Bool × Wt} {above : Int} (hg : ∀ n, 0 ≤ (g n).1 ∧ (g n).1 ≤ 99) : ∀ (k n : Nat) (own : Int) (out : List Wt), 0 ≤ (grpGo g above k n own out).2.1 ∧ (grpGo g above k n own out).2.1 ≤ 99
  | 0, n, own, out => by simp [grpGo]
  | k + 1, n, own, out => by
    unfold grpGo
    split
    · simp
    · split
      · exact hg n
      · exact grpGo_own hg k (n + 1) (g n).1 _
theorem putPs_length (l : List ByteArray) (ws : List Wt) : (putPs l ws).length = l.length := by
  unfold putPs
  induction ws generalizing l with
  | nil => rfl
  | cons x ws ih => rw [List.foldl_cons, ih, List.length_set]
theorem rdGo_length (g : Nat → Int × Bool × Wt) : ∀ (k next : Nat) (above : Int) (pages : List ByteArray), (rdGo g k next above pages).2.length = pages.length
  | 0, _, _, _ => rfl
  | k + 1, next, above, pages => by
    unfold rdGo
    split
    · rw [rdGo_length g k, putPs_length]
    · rfl
theorem readD_pages (d : Dk) : (readD d).1.pages.length ≤ 20 := by
  unfold readD readT
  split
  · exact Nat.zero_le _
  · split
    · exact Nat.zero_le _
    · dsimp only
      rw [rdGo_length]
      unfold pagesOf
      rw [List.length_take]
      omega
theorem turnL_in (s : ByteArray) (place : Int) : 0 ≤ turnL s place ∧ turnL s place ≤ 99999 := by
  unfold turnL turnN
  split
  · split
    · omega
    · omega
  · omega
end Go.Pv

/- The program's frames: data. -/
set_option linter.unusedVariables false
set_option linter.unusedSimpArgs false
namespace Go.Pv
variable {P : Program}
abbrev cFr (f : Fr) : List PV := [vI f.turn, vI f.tries, vI f.place, vI f.cell, vB f.last, vS f.text]
theorem drop_frs {l : List Fr} {k : Nat} (h : k < l.length) : (l.flatMap cFr).drop (k * 6) = vI (l.getD k fr0).turn :: vI (l.getD k fr0).tries :: vI (l.getD k fr0).place :: vI (l.getD k fr0).cell :: vB (l.getD k fr0).last :: vS (l.getD k fr0).text :: (l.flatMap cFr).drop (k * 6 + 6) := by
  induction l generalizing k with
  | nil => exact absurd h (Nat.not_lt_zero _)
  | cons x l ih =>
    cases k with
    | zero => rfl
    | succ k =>
      have := ih (k := k) (by simpa using h)
      rw [show (k + 1) * 6 = k * 6 + 6 by omega]
      exact this
theorem drops_frs {l : List Fr} {k : Nat} (h : k ≤ l.length) : (l.flatMap cFr).drop (k * 6) = (l.drop k).flatMap cFr := by
  induction l generalizing k with
  | nil => simp
  | cons x l ih =>
    cases k with
    | zero => rfl
    | succ k =>
      rw [show (k + 1) * 6 = k * 6 + 6 by omega]
      exact ih (k := k) (by simpa using h)
theorem len_frs {l : List Fr} : (l.flatMap cFr).length = l.length * 6 := by
  induction l with
  | nil => rfl
  | cons x l ih => simp only [List.flatMap_cons, List.length_append, ih, List.length_cons, List.length_nil]; omega
theorem takes_frs {l : List Fr} {m : Nat} : (l.flatMap cFr).take (m * 6) = (l.take m).flatMap cFr := by
  induction l generalizing m with
  | nil => simp
  | cons x l ih =>
    cases m with
    | zero => rw [Nat.zero_mul]; rfl
    | succ m =>
      rw [show (m + 1) * 6 = m * 6 + 6 by omega, List.take_succ_cons, List.flatMap_cons, List.flatMap_cons, ← ih]
      rfl
theorem cln_frs {n : Nat} {l : List Fr} : Cln P (.val n (l.flatMap cFr)) := Cln.val (by
  intro x hx
  simp only [List.mem_flatMap, List.mem_cons, List.not_mem_nil, or_false] at hx
  obtain ⟨_, _, rfl | rfl | rfl | rfl | rfl | rfl⟩ := hx <;> exact Cln.b _)
theorem clean_frs {n : Nat} {l : List Fr} : Cln P (.val n (l.flatMap cFr)) = True := eq_true cln_frs
theorem flat_frs {l : List Fr} : Flat P (l.flatMap cFr) := fun x hx => by
  simp only [List.mem_flatMap, List.mem_cons, List.not_mem_nil, or_false] at hx
  obtain ⟨_, _, rfl | rfl | rfl | rfl | rfl | rfl⟩ := hx <;> exact flat_b
/-- How long the program's group of frames is. -/
def grpP (fs : List Fr) (turn above : Int) (place : Nat) : Nat → Nat → Nat
  | 0, _ => 0
  | k + 1, n =>
    if (fs.getD n fr0).turn ≠ turn ∨ (fs.getD n fr0).tries ≤ above ∨ (fs.getD n fr0).tries ≠ (fs.getD place fr0).tries then 0
    else if (fs.getD n fr0).last = true then n + 1 - place
    else grpP fs turn above place k (n + 1)
end Go.Pv

/- Plain law, part 1: what the texts of numbers, heads and frames tell. -/
set_option linter.unusedVariables false
set_option linter.unusedSimpArgs false
namespace Go.Pv
open Go.Lib
/-- No byte of a text is that byte. -/
def Free (b : UInt8) (x : List UInt8) : Prop := ∀ c ∈ x, c ≠ b
theorem Free.tail {b c : UInt8} {x : List UInt8} (h : Free b (c :: x)) : Free b x := fun d hd => h d (List.mem_cons_of_mem _ hd)
theorem cutGo_hit {b : UInt8} {y : List UInt8} (k : Nat) : ∀ {x : List UInt8} (cur : List UInt8), Free b x → cutGo b (k + 1) cur (x ++ b :: y) = (cur ++ x) :: cutGo b k [] y
  | [], cur, _ => by simp [cutGo]
  | c :: x, cur, h => by
    rw [List.cons_append, cutGo, if_neg (h c (List.mem_cons_self ..)), cutGo_hit k _ h.tail]
    simp
theorem cutGo_miss {b : UInt8} (k : Nat) : ∀ {x : List UInt8} (cur : List UInt8), Free b x → cutGo b k cur x = [cur ++ x]
  | [], cur, _ => by simp [cutGo]
  | c :: x, cur, h => by
    cases k with
    | zero => rfl
    | succ k =>
      rw [cutGo, if_neg (h c (List.mem_cons_self ..)), cutGo_miss _ _ h.tail]
      simp
theorem cutGo_zero {b : UInt8} {cur : List UInt8} : ∀ {x : List UInt8}, cutGo b 0 cur x = [cur ++ x]
  | [] => by simp [cutGo]
  | c :: x => rfl
theorem index_hit {b : UInt8} {y : List UInt8} : ∀ {x : List UInt8}, Free b x → index (x ++ b :: y) [b] = x.length
  | [], _ => by simp [index, List.isPrefixOf]
  | c :: x, h => by
    have hne : (b == c) = false := by rw [beq_eq_false_iff_ne]; exact fun e => h c (List.mem_cons_self ..) e.symm
    have ih := index_hit (y := y) h.tail
    rw [List.cons_append, index, ih]
    simp only [List.isPrefixOf, hne, Bool.false_and, List.length_cons]
    rw [if_neg (by simp), if_neg (by simp)]
    omega
theorem index_miss {b : UInt8} : ∀ {x : List UInt8}, Free b x → index x [b] = -1
  | [], _ => rfl
  | c :: x, h => by
    have hne : (b == c) = false := by rw [beq_eq_false_iff_ne]; exact fun e => h c (List.mem_cons_self ..) e.symm
    rw [index, index_miss h.tail]
    simp [List.isPrefixOf, hne]
theorem cut_hit {b : UInt8} {x y : List UInt8} (h : Free b x) : Lib.cut (x ++ b :: y) [b] = (x, y, true) := by
  unfold Lib.cut
  rw [index_hit h, if_pos (by omega)]
  simp
theorem countFrom_hit {b : UInt8} {x y : List UInt8} (h : Free b x) (f : Nat) : countFrom [b] (f + 1) (x ++ b :: y) = 1 + countFrom [b] f y := by
  rw [countFrom, index_hit h, if_neg (by simp)]
  simp
theorem countFrom_miss {b : UInt8} {x : List UInt8} (h : Free b x) (f : Nat) : countFrom [b] f x = 0 := by
  cases f with
  | zero => rfl
  | succ f => rw [countFrom, index_miss h]; rfl
theorem splitK_hit {b : UInt8} {x y : List UInt8} (h : Free b x) (k : Nat) : splitK [b] 0 (k + 1) (x ++ b :: y) = x :: splitK [b] 0 k y := by
  rw [splitK, index_hit h, if_neg (by simp)]
  simp
theorem splitK_miss {b : UInt8} {x : List UInt8} (h : Free b x) (k : Nat) : splitK [b] 0 k x = [x] := by
  cases k with
  | zero => rfl
  | succ k => rw [splitK, index_miss h]; rfl
/-- Figures. -/
def Figs (l : List UInt8) : Prop := ∀ c ∈ l, 48 ≤ c.toNat ∧ c.toNat ≤ 57
theorem figs_all {l : List UInt8} (h : Figs l) : l.all digitB = true := by
  rw [List.all_eq_true]
  intro c hc
  exact decide_eq_true (h c hc)
theorem Figs.free {l : List UInt8} (h : Figs l) {b : UInt8} (hb : b.toNat < 48 ∨ 57 < b.toNat) : Free b l := fun c hc e => by
  have := h c hc
  rw [e] at this
  omega
theorem one_toNat {n : Nat} (h : n < 10) : (UInt8.ofNat (48 + n)).toNat = 48 + n := by simp; omega
theorem decDigits_step {u : Nat} (h : 10 ≤ u) : decDigits u = decDigits (u / 10) ++ [UInt8.ofNat (48 + u % 10)] := by rw [decDigits, dif_neg (by omega)]
theorem dec_figs (u : Nat) : Figs (decDigits u) := by
  refine Nat.strongRecOn u fun u ih => ?_
  by_cases h : u < 10
  · rw [decDigits_one h]
    intro c hc
    rw [List.mem_singleton.1 hc, one_toNat h]
    omega
  · rw [decDigits_step (by omega)]
    intro c hc
    rcases List.mem_append.1 hc with hc | hc
    · exact ih _ (by omega) c hc
    · rw [List.mem_singleton.1 hc, one_toNat (by omega)]
      omega
theorem dec_val (u : Nat) : valL (decDigits u) = u := by
  refine Nat.strongRecOn u fun u ih => ?_
  by_cases h : u < 10
  · rw [decDigits_one h]
    show 0 * 10 + ((UInt8.ofNat (48 + u)).toNat - 48) = u
    rw [one_toNat h]
    omega
  · rw [decDigits_step (by omega), valL_snoc, ih _ (by omega), one_toNat (by omega)]
    omega
theorem dec_ne (u : Nat) : decDigits u ≠ [] := by
  by_cases h : u < 10
  · rw [decDigits_one h]; simp
  · rw [decDigits_step (by omega)]; simp
theorem dec_head (u : Nat) (hu : 0 < u) : (decDigits u).getD 0 0 ≠ 48 := by
  revert hu
  refine Nat.strongRecOn u fun u ih hu => ?_
  by_cases h : u < 10
  · rw [decDigits_one h]
    intro e
    have := congrArg UInt8.toNat e
    rw [show ([UInt8.ofNat (48 + u)].getD 0 0) = UInt8.ofNat (48 + u) from rfl, one_toNat h] at this
    have : 48 + u = 48 := this
    omega
  · have := ih (u / 10) (by omega) (by omega)
    rw [decDigits_step (by omega)]
    obtain ⟨c, l, e⟩ := List.exists_cons_of_ne_nil (dec_ne (u / 10))
    rw [e] at this ⊢
    exact this
theorem dec_len (k : Nat) : ∀ u : Nat, u < 10 ^ (k + 1) → (decDigits u).length ≤ k + 1 := by
  induction k with
  | zero => intro u hu; rw [decDigits_one (by omega)]; simp
  | succ k ih =>
    intro u hu
    by_cases h : u < 10
    · rw [decDigits_one h]; simp
    · have := ih (u / 10) (by rw [Nat.pow_succ] at hu; omega)
      rw [decDigits_step (by omega), List.length_append, List.length_singleton]
      omega
theorem numL_dec {u : Nat} (h : u ≤ 999999999) : numL (decDigits u) = u := by
  unfold numL
  rw [if_pos, dec_val]
  refine ⟨figs_all (dec_figs u), dec_len 8 u (by omega), dec_ne u, fun h1 => ?_⟩
  refine dec_head u ?_
  rcases Nat.eq_zero_or_pos u with rfl | h0
  · rw [decDigits_one (by omega)] at h1; simp at h1
  · exact h0
theorem parse_figs : ∀ (l : List UInt8) (acc : Nat), Figs l → l.foldl (fun n c => n * 10 + (c.toNat - 48)) acc < 1844674407370955162 → acc ≤ l.foldl (fun n c => n * 10 + (c.toNat - 48)) acc ∧ parseUint10 acc l = .ok (l.foldl (fun n c => n * 10 + (c.toNat - 48)) acc)
  | [], acc, _, _ => ⟨Nat.le_refl _, rfl⟩
  | c :: l, acc, h, hb => by
    rw [List.foldl_cons] at hb ⊢
    obtain ⟨h1, h2⟩ := parse_figs l (acc * 10 + (c.toNat - 48)) (fun d hd => h d (List.mem_cons_of_mem _ hd)) hb
    refine ⟨by omega, ?_⟩
    rw [parseUint10, if_pos (h c (List.mem_cons_self ..)), if_neg (by omega), if_neg (by omega), h2]
theorem atoi_dec {u : Nat} (h : u ≤ 999999999) : atoiAll (decDigits u) = .ok u := by
  have hp := (parse_figs (decDigits u) 0 (dec_figs u) (by have := dec_val u; unfold valL at this; omega)).2
  have hv : (decDigits u).foldl (fun n c => n * 10 + (c.toNat - 48)) 0 = u := dec_val u
  rw [hv] at hp
  have hd := dec_figs u
  obtain ⟨c, l, e⟩ := List.exists_cons_of_ne_nil (dec_ne u)
  rw [e] at hp hd ⊢
  have hc := hd c (List.mem_cons_self ..)
  unfold atoiAll
  simp only []
  rw [if_neg (by omega)]
  unfold parseMag
  rw [if_neg (by simp), hp]
  simp only []
  rw [if_neg (by omega), if_neg (by omega), if_neg (by omega)]
theorem itoa_dec {n : Int} (h : 0 ≤ n) : Lib.itoa n = decDigits n.toNat := by unfold Lib.itoa; rw [if_neg (by omega)]
theorem itoa_figs {n : Int} (h : 0 ≤ n) : Figs (Lib.itoa n) := by rw [itoa_dec h]; exact dec_figs _
theorem itoa_free {n : Int} (h : 0 ≤ n) {b : UInt8} (hb : b.toNat < 48 ∨ 57 < b.toNat) : Free b (Lib.itoa n) := (itoa_figs h).free hb
theorem numL_itoa {n : Int} (h : 0 ≤ n) (h' : n ≤ 999999999) : numL (Lib.itoa n) = n := by rw [itoa_dec h, numL_dec (by omega)]; omega
theorem atoi_itoa {n : Int} (h : 0 ≤ n) (h' : n ≤ 999999999) : atoiAll (Lib.itoa n) = .ok n := by rw [itoa_dec h, atoi_dec (by omega)]; congr 1; omega
theorem itoaB_list (n : Int) : (itoaB n).data.toList = Lib.itoa n := by simp [itoaB]
theorem numI_itoa {n : Int} (h : 0 ≤ n) (h' : n ≤ 999999999) : numI (itoaB n) = n := by unfold numI; rw [itoaB_list, atoi_itoa h h']
theorem numL_itoaB {n : Int} (h : 0 ≤ n) (h' : n ≤ 999999999) : numL (itoaB n).data.toList = n := by rw [itoaB_list, numL_itoa h h']
theorem ofL_itoa (n : Int) : ofL (Lib.itoa n) = itoaB n := rfl
theorem ofL_list (l : List UInt8) : (ofL l).data.toList = l := by simp [ofL]
theorem ofL_data (s : ByteArray) : ofL s.data.toList = s := by cases s; simp [ofL]
theorem ofL_size (l : List UInt8) : (ofL l).size = l.length := by show l.toArray.size = _; simp
/-- A text is a list of bytes. -/
theorem B_ext {a b : ByteArray} (h : a.data.toList = b.data.toList) : a = b := by
  apply ByteArray.ext
  exact Array.ext' h
theorem B_app (a b : ByteArray) : (a ++ b).data.toList = a.data.toList ++ b.data.toList := by rw [ByteArray.data_append, Array.toList_append]
theorem B_cut (s : ByteArray) (a b : Nat) : (s.extract a b).data.toList = (s.data.toList.take b).drop a := by
  rw [ByteArray.data_extract, Array.toList_extract]
  simp [List.extract_eq_take_drop, List.drop_take]
theorem B_len (s : ByteArray) : s.data.toList.length = s.size := rfl
end Go.Pv

/- Plain law, part 2: the reference and the program read the same frames and heads. -/
set_option linter.unusedVariables false
set_option linter.unusedSimpArgs false
namespace Go.Pv
open Go.Lib
theorem words_list (turn tries place cell : Int) (last : Bool) (n : Nat) : (wordsB turn tries place cell last n).data.toList = Lib.itoa turn ++ 32 :: (Lib.itoa tries ++ 32 :: (Lib.itoa place ++ 32 :: (Lib.itoa cell ++ 32 :: ((markOf last).data.toList ++ 32 :: Lib.itoa n)))) := by
  unfold wordsB
  simp only [B_app, itoaB_list, List.append_assoc, List.cons_append, List.nil_append]
theorem frame_list (turn tries place cell : Int) (last : Bool) (x : ByteArray) : (frameB turn tries place cell last x).data.toList = (wordsB turn tries place cell last x.size).data.toList ++ 58 :: (x.data.toList ++ 58 :: (Lib.itoa turn ++ 46 :: (Lib.itoa tries ++ [59]))) := by
  unfold frameB
  simp only [B_app, itoaB_list, List.append_assoc, List.cons_append, List.nil_append]
theorem mark_free (last : Bool) {b : UInt8} (h1 : b ≠ 33) (h2 : b ≠ 45) : Free b (markOf last).data.toList := by
  intro c hc
  cases last
  · rw [List.mem_singleton.1 (show c ∈ [45] from hc)]; exact fun e => h2 e.symm
  · rw [List.mem_singleton.1 (show c ∈ [33] from hc)]; exact fun e => h1 e.symm
theorem Free.app {b : UInt8} {x y : List UInt8} (h1 : Free b x) (h2 : Free b y) : Free b (x ++ y) := fun c hc => (List.mem_append.1 hc).elim (h1 c) (h2 c)
theorem Free.cons {b c : UInt8} {x : List UInt8} (h1 : c ≠ b) (h2 : Free b x) : Free b (c :: x) := fun d hd => by
  rcases List.mem_cons.1 hd with rfl | hd
  · exact h1
  · exact h2 d hd
theorem words_free {turn tries place cell : Int} (last : Bool) (n : Nat) (h1 : 0 ≤ turn) (h2 : 0 ≤ tries) (h3 : 0 ≤ place) (h4 : 0 ≤ cell) : Free 58 (wordsB turn tries place cell last n).data.toList := by
  rw [words_list]
  exact (itoa_free h1 (.inr (by decide))).app (.cons (by decide) ((itoa_free h2 (.inr (by decide))).app (.cons (by decide) ((itoa_free h3 (.inr (by decide))).app (.cons (by decide) ((itoa_free h4 (.inr (by decide))).app (.cons (by decide)
    ((mark_free last (by decide) (by decide)).app (.cons (by decide) (itoa_free (by omega) (.inr (by decide))))))))))))
theorem words_parts {turn tries place cell : Int} (last : Bool) (n : Nat) (h1 : 0 ≤ turn) (h2 : 0 ≤ tries) (h3 : 0 ≤ place) (h4 : 0 ≤ cell) : cutL (wordsB turn tries place cell last n) 32 5 = [itoaB turn, itoaB tries, itoaB place, itoaB cell, markOf last, itoaB n] := by
  unfold cutL
  rw [words_list, cutGo_hit _ _ (itoa_free h1 (.inl (by decide))), cutGo_hit _ _ (itoa_free h2 (.inl (by decide))), cutGo_hit _ _ (itoa_free h3 (.inl (by decide))), cutGo_hit _ _ (itoa_free h4 (.inl (by decide))),
    cutGo_hit _ _ (mark_free last (by decide) (by decide)), cutGo_zero]
  simp only [List.nil_append, List.map_cons, List.map_nil, ofL_itoa, ofL_data]
theorem parts_frame {turn tries place cell : Int} (last : Bool) (x : ByteArray) (h1 : 0 ≤ turn) (h2 : 0 ≤ tries) (h3 : 0 ≤ place) (h4 : 0 ≤ cell) : partsOf (frameB turn tries place cell last x) = [itoaB turn, itoaB tries, itoaB place, itoaB cell, markOf last, itoaB x.size] := by
  unfold partsOf
  rw [show (cutL (frameB turn tries place cell last x) 58 1).getD 0 ByteArray.empty = wordsB turn tries place cell last x.size by
    unfold cutL
    rw [frame_list, cutGo_hit _ _ (words_free last _ h1 h2 h3 h4)]
    simp only [List.nil_append, List.map_cons, List.getD_cons_zero, ofL_data], words_parts last _ h1 h2 h3 h4]
theorem own_frame {turn tries place cell : Int} (last : Bool) (x : ByteArray) (h1 : 0 ≤ turn) (h1' : turn ≤ 999999999) : numL ((cutL (frameB turn tries place cell last x) 32 1).getD 0 ByteArray.empty).data.toList = turn := by
  unfold cutL
  rw [frame_list, words_list, List.append_assoc, List.cons_append, cutGo_hit _ _ (itoa_free h1 (.inl (by decide)))]
  simp only [List.nil_append, List.map_cons, List.getD_cons_zero, ofL_list]
  exact numL_itoa h1 h1'
theorem mark_eq (last : Bool) : (markOf last = ⟨#[33]⟩) ↔ last = true := by
  cases last
  · simp [markOf]
  · simp [markOf]
theorem sizes_words (turn tries place cell : Int) (last : Bool) (n : Nat) : sizes6 [itoaB turn, itoaB tries, itoaB place, itoaB cell, markOf last, itoaB n] = (wordsB turn tries place cell last n).size + 1 := by
  unfold sizes6 wordsB
  simp only [ByteArray.size_append, bytes_size, List.size_toArray, List.length_cons, List.length_nil, List.getD_cons_zero, List.getD_cons_succ]
  omega
theorem frame_text (turn tries place cell : Int) (last : Bool) (x : ByteArray) : (frameB turn tries place cell last x).extract ((wordsB turn tries place cell last x.size).size + 1) ((wordsB turn tries place cell last x.size).size + 1 + x.size) = x := by
  apply B_ext
  rw [B_cut, frame_list, List.drop_take, List.drop_append, ← B_len (wordsB ..)]
  rw [List.drop_eq_nil_of_le (by omega), List.nil_append, show (wordsB turn tries place cell last x.size).data.toList.length + 1 - (wordsB turn tries place cell last x.size).data.toList.length = 1 by omega]
  rw [List.drop_succ_cons, List.drop_zero, show (wordsB turn tries place cell last x.size).data.toList.length + 1 + x.size - ((wordsB turn tries place cell last x.size).data.toList.length + 1) = x.data.toList.length by rw [B_len x]; omega, List.take_append_of_le_length (Nat.le_refl _), List.take_length]
theorem frame_size (turn tries place cell : Int) (last : Bool) (x : ByteArray) : (wordsB turn tries place cell last x.size).size + 1 + x.size ≤ (frameB turn tries place cell last x).size := by
  unfold frameB
  simp only [ByteArray.size_append, bytes_size, List.size_toArray, List.length_cons, List.length_nil]
  omega
/-- A frame of a store: what its text may say. -/
def FrIn (f : Fr) : Prop := (1 ≤ f.turn ∧ f.turn ≤ 99999) ∧ (1 ≤ f.tries ∧ f.tries ≤ 99) ∧ (0 ≤ f.place ∧ f.place ≤ 19) ∧ (0 ≤ f.cell ∧ f.cell ≤ 19) ∧ f.text.size ≤ 1100
theorem getOf_frame {f : Fr} (h : FrIn f) : getOf (frOf f) f.turn f.place = (f.tries, f.last, ⟨f.cell, f.text⟩) := by
  obtain ⟨h1, h2, h3, h4, h5⟩ := h
  unfold getOf frOf
  rw [parts_frame f.last f.text (by omega) (by omega) (by omega) (by omega)]
  unfold getL
  rw [sizes_words]
  simp only [numAt, List.getD_cons_zero, List.getD_cons_succ]
  rw [numL_itoaB (n := f.tries) (by omega) (by omega), numL_itoaB (n := f.cell) (by omega) (by omega), numL_itoaB (n := (f.text.size : Int)) (by omega) (by omega), Int.toNat_natCast, frame_text]
  have hs := frame_size f.turn f.tries f.place f.cell f.last f.text
  have hm : decide (markOf f.last = ⟨#[33]⟩) = f.last := by rw [Bool.eq_iff_iff, decide_eq_true_iff]; exact mark_eq _
  rw [hm, if_neg (by simp), if_neg (by omega), if_neg (by simp)]
theorem getOf_zero {s : ByteArray} {turn place : Int} (h : (getOf s turn place).1 ≤ 0) : getOf s turn place = (0, false, wt0) := by
  unfold getOf getL at h ⊢
  split
  · rfl
  · rw [if_neg ‹_›] at h
    split
    · rfl
    · rw [if_neg ‹_›] at h
      split
      · rfl
      · rw [if_neg ‹_›] at h
        simp only at h
        omega
theorem getOf_sound {s : ByteArray} {turn place : Int} (ht : 1 ≤ turn ∧ turn ≤ 99999) (hp : 0 ≤ place ∧ place ≤ 19) (h : 0 < (getOf s turn place).1) :
    FrIn ⟨turn, (getOf s turn place).1, place, (getOf s turn place).2.2.cell, (getOf s turn place).2.1, (getOf s turn place).2.2.text⟩ ∧ frOf ⟨turn, (getOf s turn place).1, place, (getOf s turn place).2.2.cell, (getOf s turn place).2.1, (getOf s turn place).2.2.text⟩ = s := by
  unfold getOf getL at h ⊢
  split at h
  · simp at h
  · split at h
    · simp at h
    · split at h
      · simp at h
      · rename_i h1 h2 h3
        rw [if_neg h1, if_neg h2, if_neg h3]
        refine ⟨⟨ht, ?_, hp, ?_, ?_⟩, Classical.not_not.1 h3⟩
        · show 1 ≤ numAt _ 1 ∧ numAt _ 1 ≤ 99; omega
        · show 0 ≤ numAt _ 3 ∧ numAt _ 3 ≤ 19; omega
        · show ByteArray.size (ByteArray.extract ..) ≤ 1100
          rw [ByteArray.size_extract]
          omega
theorem split_words {turn tries place cell : Int} (last : Bool) (n : Nat) (h1 : 0 ≤ turn) (h2 : 0 ≤ tries) (h3 : 0 ≤ place) (h4 : 0 ≤ cell) : splitL (wordsB turn tries place cell last n) ⟨#[32]⟩ = [itoaB turn, itoaB tries, itoaB place, itoaB cell, markOf last, itoaB n] := by
  have key : (splitL (wordsB turn tries place cell last n) ⟨#[32]⟩).map (·.data.toList) = [itoaB turn, itoaB tries, itoaB place, itoaB cell, markOf last, itoaB n].map (·.data.toList) := by
    unfold splitL
    rw [splitB_data]
    show splitK [32] 0 (Lib.count (wordsB turn tries place cell last n).data.toList [32]) _ = _
    unfold Lib.count
    have hl : 5 ≤ (wordsB turn tries place cell last n).data.toList.length := by rw [words_list]; simp only [List.length_append, List.length_cons]; omega
    obtain ⟨k, hk⟩ : ∃ k, (wordsB turn tries place cell last n).data.toList.length + 1 = k + 5 := ⟨_, (Nat.sub_add_cancel (by omega : 5 ≤ _)).symm⟩
    rw [hk, words_list]
    rw [countFrom_hit (itoa_free h1 (.inl (by decide))) (k + 4), countFrom_hit (itoa_free h2 (.inl (by decide))) (k + 3), countFrom_hit (itoa_free h3 (.inl (by decide))) (k + 2), countFrom_hit (itoa_free h4 (.inl (by decide))) (k + 1), countFrom_hit (mark_free last (by decide) (by decide)) k, countFrom_miss (itoa_free (by omega) (.inl (by decide)))]
    show splitK [32] 0 5 _ = _
    rw [splitK_hit (itoa_free h1 (.inl (by decide))), splitK_hit (itoa_free h2 (.inl (by decide))), splitK_hit (itoa_free h3 (.inl (by decide))), splitK_hit (itoa_free h4 (.inl (by decide))), splitK_hit (mark_free last (by decide) (by decide)), splitK_miss (itoa_free (by omega) (.inl (by decide)))]
    simp only [List.map_cons, List.map_nil, itoaB_list]
  have h := congrArg (List.map ofL) key
  simpa only [List.map_map, Function.comp_def, ofL_data, List.map_id'] using h
theorem cut_frame {turn tries place cell : Int} (last : Bool) (x : ByteArray) (h1 : 0 ≤ turn) (h2 : 0 ≤ tries) (h3 : 0 ≤ place) (h4 : 0 ≤ cell) : (cutB (frameB turn tries place cell last x) ⟨#[58]⟩).1 = wordsB turn tries place cell last x.size ∧ (cutB (frameB turn tries place cell last x) ⟨#[58]⟩).2.1 = ofL (x.data.toList ++ 58 :: (Lib.itoa turn ++ 46 :: (Lib.itoa tries ++ [59]))) := by
  unfold cutB
  rw [frame_list, show (⟨#[58]⟩ : ByteArray).data.toList = [58] from rfl, cut_hit (words_free last _ h1 h2 h3 h4)]
  exact ⟨ofL_data _, rfl⟩
theorem frGet_frame {f : Fr} (h : FrIn f) : frGet (frOf f) f.place = (f, true) := by
  obtain ⟨h1, h2, h3, h4, h5⟩ := h
  obtain ⟨e1, e2⟩ := cut_frame (turn := f.turn) (tries := f.tries) (place := f.place) (cell := f.cell) f.last f.text (by omega) (by omega) (by omega) (by omega)
  have hf : frOf f = frameB f.turn f.tries f.place f.cell f.last f.text := rfl
  rw [frGet, hf, e1, e2, split_words f.last _ (by omega) (by omega) (by omega) (by omega), ← hf]
  unfold frL
  simp only [List.getD_cons_zero, List.getD_cons_succ]
  rw [numI_itoa (n := f.turn) (by omega) (by omega), numI_itoa (n := f.tries) (by omega) (by omega), numI_itoa (n := f.place) (by omega) (by omega), numI_itoa (n := f.cell) (by omega) (by omega), numI_itoa (n := (f.text.size : Int)) (by omega) (by omega), Int.toNat_natCast]
  have hm : decide (markOf f.last = ⟨#[33]⟩) = f.last := by rw [Bool.eq_iff_iff, decide_eq_true_iff]; exact mark_eq _
  have hx : (ofL (f.text.data.toList ++ 58 :: (Lib.itoa f.turn ++ 46 :: (Lib.itoa f.tries ++ [59])))).extract 0 f.text.size = f.text := by
    apply B_ext
    rw [B_cut, ofL_list, List.drop_zero, ← B_len f.text, List.take_append_of_le_length (Nat.le_refl _), List.take_length]
  have hs : f.text.size ≤ (ofL (f.text.data.toList ++ 58 :: (Lib.itoa f.turn ++ 46 :: (Lib.itoa f.tries ++ [59])))).size := by rw [ofL_size, List.length_append, B_len]; omega
  rw [hm, hx, if_neg (by simp), if_neg (by omega)]
  simp
theorem frGet_sound {s : ByteArray} {place : Int} (hp : 0 ≤ place ∧ place ≤ 19) (h : (frGet s place).2 = true) : FrIn (frGet s place).1 ∧ (frGet s place).1.place = place ∧ frOf (frGet s place).1 = s := by
  unfold frGet frL at h ⊢
  split at h
  · simp at h
  · split at h
    · simp at h
    · rename_i h1 h2
      rw [if_neg h1, if_neg h2]
      simp only [decide_eq_true_eq] at h
      refine ⟨⟨?_, ?_, ?_, ?_, ?_⟩, ?_, h⟩
      · show 1 ≤ numI _ ∧ numI _ ≤ 99999; omega
      · show 1 ≤ numI _ ∧ numI _ ≤ 99; omega
      · show 0 ≤ numI _ ∧ numI _ ≤ 19; omega
      · show 0 ≤ numI _ ∧ numI _ ≤ 19; omega
      · show ByteArray.size (ByteArray.extract ..) ≤ 1100
        rw [ByteArray.size_extract]; omega
      · show numI _ = place; omega
/-- The reference reads at a turn what the program reads, if it is of that turn. -/
theorem getOf_eq {s : ByteArray} {turn place : Int} (ht : 1 ≤ turn ∧ turn ≤ 99999) (hp : 0 ≤ place ∧ place ≤ 19) :
    getOf s turn place = if (frGet s place).2 = true ∧ (frGet s place).1.turn = turn then ((frGet s place).1.tries, (frGet s place).1.last, ⟨(frGet s place).1.cell, (frGet s place).1.text⟩) else (0, false, wt0) := by
  by_cases h : 0 < (getOf s turn place).1
  · obtain ⟨h1, h2⟩ := getOf_sound ht hp h
    have := frGet_frame h1
    rw [h2] at this
    simp only at this
    rw [this, if_pos ⟨rfl, rfl⟩]
  · split
    · rename_i hf
      obtain ⟨h1, h2, h3⟩ := frGet_sound hp hf.1
      have := getOf_frame h1
      rw [h3, h2, hf.2] at this
      exact this
    · exact getOf_zero (by omega)
/-- Heads. -/
theorem head_list (n : Int) : (headB n).data.toList = 72 :: (Lib.itoa n ++ 46 :: (Lib.itoa n ++ [59])) := by
  unfold headB
  simp only [B_app, itoaB_list, List.append_assoc, List.cons_append, List.nil_append]
theorem turnL_head {n : Int} (h : 1 ≤ n ∧ n ≤ 99999) {place : Int} (hp : n.tmod 2 = place) : turnL (headB n) place = n := by
  unfold turnL
  have hs : 2 ≤ (headB n).size := by unfold headB; simp only [ByteArray.size_append, bytes_size, List.size_toArray, List.length_cons, List.length_nil]; omega
  rw [if_pos ⟨hs, by rw [head_list]; rfl⟩]
  have e : ((cutL ((headB n).extract 1 (headB n).size) 46 1).getD 0 ByteArray.empty).data.toList = Lib.itoa n := by
    unfold cutL
    rw [B_cut, ← B_len (headB n), List.take_length, head_list, List.drop_succ_cons, List.drop_zero, cutGo_hit _ _ (itoa_free (by omega) (.inl (by decide)))]
    simp only [List.nil_append, List.map_cons, List.getD_cons_zero, ofL_list]
  rw [e, numL_itoa (by omega) (by omega), turnN, if_pos ⟨h.1, h.2, hp, rfl⟩]
theorem turnI_head {n : Int} (h : 1 ≤ n ∧ n ≤ 99999) : turnI (headB n) = n := by
  unfold turnI
  have e : (cutB (trimB (headB n) ⟨#[72]⟩) ⟨#[46]⟩).1 = itoaB n := by
    have e1 : (trimB (headB n) ⟨#[72]⟩).data.toList = Lib.itoa n ++ 46 :: (Lib.itoa n ++ [59]) := by
      unfold trimB
      rw [head_list]
      show (ofL (Lib.trimPrefix _ [72])).data.toList = _
      rw [ofL_list]
      unfold Lib.trimPrefix
      rw [if_pos (by simp [Lib.hasPrefix, List.isPrefixOf])]
      rfl
    unfold cutB
    rw [e1, show (⟨#[46]⟩ : ByteArray).data.toList = [46] from rfl, cut_hit (itoa_free (by omega) (.inl (by decide)))]
    rfl
  rw [e, numI_itoa (by omega) (by omega), turnM, if_pos ⟨h.1, h.2, rfl⟩]
theorem turnI_in (s : ByteArray) : turnI s = 0 ∨ (1 ≤ turnI s ∧ turnI s ≤ 99999 ∧ headB (turnI s) = s) := by
  unfold turnI turnM
  split
  · rename_i h; exact .inr h
  · exact .inl rfl
theorem turnL_eq (s : ByteArray) (place : Int) : turnL s place = if (turnI s).tmod 2 = place then turnI s else 0 := by
  by_cases h : turnL s place = 0
  · rw [h]
    split
    · rename_i hp
      rcases turnI_in s with h1 | ⟨h1, h2, h3⟩
      · exact h1.symm
      · have := turnL_head ⟨h1, h2⟩ hp
        rw [h3, h] at this
        omega
    · rfl
  · have hh : 1 ≤ turnL s place ∧ turnL s place ≤ 99999 ∧ (turnL s place).tmod 2 = place ∧ headB (turnL s place) = s := by
      unfold turnL turnN at h ⊢
      split at h
      · split at h
        · rename_i h1 h2; rw [if_pos h1, if_pos h2]; exact h2
        · exact absurd rfl h
      · exact absurd rfl h
    obtain ⟨h1, h2, h3, h4⟩ := hh
    have := turnI_head ⟨h1, h2⟩
    rw [h4] at this
    rw [this, if_pos h3]
end Go.Pv

/- What the program reads of a disk: data. -/
set_option linter.unusedVariables false
set_option linter.unusedSimpArgs false
namespace Go.Pv
variable {P : Program}
/-- The greatest turn that the heads tell. -/
def tI (c : List ByteArray) : Nat → Int
  | 0 => 0
  | n + 1 => if (turnI (c.getD n ByteArray.empty)).tmod 2 = n then max (tI c n) (turnI (c.getD n ByteArray.empty)) else tI c n
def qOf (c : List ByteArray) (k : Nat) : Fr × Bool := frGet (c.getD (22 + k) ByteArray.empty) k
def trP (q : Nat → Fr × Bool) (turn : Int) : Nat → Int
  | 0 => 0
  | n + 1 => if (q n).2 = true ∧ (q n).1.turn = turn then max (trP q turn n) (q n).1.tries else trP q turn n
def fP (q : Nat → Fr × Bool) (k : Nat) : Fr := if (q k).2 = true then (q k).1 else fr0
def fsP (q : Nat → Fr × Bool) (i : Nat) : List Fr := (List.range i).map (fP q) ++ List.replicate (20 - i) fr0
def lateP (q : Nat → Fr × Bool) (turn : Int) (k : Nat) : Bool := (q k).2 && decide (turn < (q k).1.turn)
def putFs (l : List ByteArray) (fs : List Fr) : List ByteArray := fs.foldl (fun out f => out.set f.cell.toNat f.text) l
def rdP (fs : List Fr) (turn : Int) : Nat → Nat → Int → List ByteArray → Nat × List ByteArray
  | 0, next, _, pages => (next, pages)
  | k + 1, next, above, pages =>
    if grpP fs turn above next (20 - next) next = 0 then (next, pages)
    else rdP fs turn k (next + grpP fs turn above next (20 - next) next) (fs.getD next fr0).tries (putFs pages ((fs.drop next).take (grpP fs turn above next (20 - next) next)))
def readU (d : Dk) (q : Nat → Fr × Bool) (turn : Int) : Stor × Bool :=
  if turn = 0 ∨ anyTo (lateP q turn) 20 = true then (stor0, false)
  else if (rdP (fsP q 20) turn 21 0 0 (pagesOf d.cells)).2.any (fun s => decide (1100 < s.size)) = true then (stor0, false)
  else (⟨d, turn, trP q turn 20, (rdP (fsP q 20) turn 21 0 0 (pagesOf d.cells)).1, (rdP (fsP q 20) turn 21 0 0 (pagesOf d.cells)).2⟩, true)
def readI (d : Dk) : Stor × Bool := readU d (qOf d.cells) (tI (d.cells.take 2) 2)
def storeReadI (d : Dk) : Stor × Bool := if dkOk d = true ∧ d.waits.length = 0 then readI d else (stor0, false)
def storeOkI (s : Stor) : Bool := decide ((storeReadI s.disk).2 = true ∧ (storeReadI s.disk).1.tries ≤ s.tries ∧ s.tries ≤ 99 ∧ s.turn = (storeReadI s.disk).1.turn ∧ s.next = (storeReadI s.disk).1.next ∧ s.pages = (storeReadI s.disk).1.pages)
abbrev vStorR (s : Stor) : PV := .agg [.ref 0 0 s.disk.cells.length, .ref 1 0 s.disk.waits.length, vI s.disk.room, vI s.disk.left, vI s.turn, vI s.tries, vI s.next, .ref 2 0 s.pages.length]
abbrev rowsStor (s : Stor) : List (TypeId × List PV) := [(9, s.disk.cells.map vS), (110, s.disk.waits.flatMap cWt), (9, s.pages.map vS)]
theorem putFs_length (l : List ByteArray) (fs : List Fr) : (putFs l fs).length = l.length := by
  unfold putFs
  induction fs generalizing l with
  | nil => rfl
  | cons x fs ih => rw [List.foldl_cons, ih, List.length_set]
theorem grpP_le {fs : List Fr} {turn above : Int} {place : Nat} : ∀ (k n : Nat), place ≤ n → place + grpP fs turn above place k n ≤ n + k
  | 0, n, h => by simp only [grpP]; omega
  | k + 1, n, h => by
    unfold grpP
    split
    · omega
    · split
      · omega
      · have := grpP_le (fs := fs) (turn := turn) (above := above) (place := place) k (n + 1) (by omega)
        omega
theorem fsP_length (q : Nat → Fr × Bool) (i : Nat) (h : i ≤ 20) : (fsP q i).length = 20 := by
  unfold fsP; simp; omega
theorem fsP_zero (q : Nat → Fr × Bool) : fsP q 0 = List.replicate 20 fr0 := rfl
theorem fsP_succ (q : Nat → Fr × Bool) {i : Nat} (h : i < 20) : fsP q (i + 1) = (fsP q i).set i (fP q i) := by
  unfold fsP
  rw [List.set_append_right _ _ (by simp), List.range_succ, List.map_append, List.append_assoc]
  congr 1
  simp only [List.length_map, List.length_range, Nat.sub_self, List.map_cons, List.map_nil]
  rw [show 20 - i = (19 - i) + 1 by omega, List.replicate_succ, List.set_cons_zero, show 20 - (i + 1) = 19 - i by omega]
  rfl
theorem fsP_same (q : Nat → Fr × Bool) {i : Nat} (h : i < 20) (hq : (q i).2 = false) : fsP q (i + 1) = fsP q i := by
  rw [fsP_succ q h]
  have : fP q i = fr0 := by unfold fP; rw [hq]; rfl
  rw [this]
  unfold fsP
  rw [List.set_append_right _ _ (by simp)]
  congr 1
  simp only [List.length_map, List.length_range, Nat.sub_self]
  rw [show 20 - i = (19 - i) + 1 by omega, List.replicate_succ, List.set_cons_zero]
theorem take_strs2 {l : List ByteArray} {n : Nat} : (l.map vS).take n = (l.take n).map vS := by rw [List.map_take]
theorem drop_strs2 {l : List ByteArray} {n : Nat} : (l.map vS).drop n = (l.drop n).map vS := by rw [List.map_drop]
theorem clean_takes {n m : Nat} {l : List ByteArray} : Cln P (.val n (List.take m (List.map vS l))) = True := by rw [take_strs2]; exact clean_strs
theorem turnI_bd (s : ByteArray) : 0 ≤ turnI s ∧ turnI s ≤ 99999 := by
  unfold turnI turnM
  split
  · omega
  · omega
theorem tI_bd (c : List ByteArray) : ∀ n, 0 ≤ tI c n ∧ tI c n ≤ 99999
  | 0 => by simp [tI]
  | n + 1 => by
    have h1 := tI_bd c n
    have h2 := turnI_bd (c.getD n ByteArray.empty)
    unfold tI
    split <;> omega
theorem zeros_frs {q : Nat → Fr × Bool} : (fsP q 0).flatMap cFr = zrep 20 [.b (.int .i64 0), .b (.int .i64 0), .b (.int .i64 0), .b (.int .i64 0), .b (.bool false), .b (.string ByteArray.empty)] := rfl
theorem set_frs {l : List Fr} {i : Nat} {f : Fr} (h : i < l.length) : (l.flatMap cFr).take (i * 6) ++ (cFr f ++ (l.flatMap cFr).drop (i * 6 + 6)) = (l.set i f).flatMap cFr := by
  induction l generalizing i with
  | nil => exact absurd h (Nat.not_lt_zero _)
  | cons x l ih =>
    cases i with
    | zero => rfl
    | succ i =>
      rw [show (i + 1) * 6 = i * 6 + 6 by omega, List.set_cons_succ]
      have := ih (i := i) (by simpa using h)
      rw [List.flatMap_cons (xs := l.set i f), ← this]
      rfl
theorem sets_frs {l : List Fr} {i : Nat} {f : Fr} (h : i < l.length) : ((((((l.flatMap cFr).set (i * 6) (vI f.turn)).set (i * 6 + 1) (vI f.tries)).set (i * 6 + 1 + 1) (vI f.place)).set (i * 6 + 1 + 1 + 1) (vI f.cell)).set (i * 6 + 1 + 1 + 1 + 1) (vB f.last)).set (i * 6 + 1 + 1 + 1 + 1 + 1) (vS f.text) = (l.set i f).flatMap cFr := by
  induction l generalizing i with
  | nil => exact absurd h (Nat.not_lt_zero _)
  | cons x l ih =>
    cases i with
    | zero => rfl
    | succ i =>
      have := ih (i := i) (by simpa using h)
      rw [show (i + 1) * 6 = i * 6 + 6 by omega, List.set_cons_succ, List.flatMap_cons (xs := l.set i f), ← this]
      rfl
theorem clnM_frs {l : List Fr} : (∀ (z : PV) (x : Fr), x ∈ l → z = vI x.turn ∨ z = vI x.tries ∨ z = vI x.place ∨ z = vI x.cell ∨ z = vB x.last ∨ z = .b (.string x.text) → Cln P z) = True := eq_true fun z x _ h => by
  rcases h with rfl | rfl | rfl | rfl | rfl | rfl <;> exact Cln.b _
theorem hok_frs {n : Nat} {l : List Fr} : HOk P (.val n (l.flatMap cFr)) := .inr (.inr cln_frs)
theorem load_frt {l : List Fr} {n : Nat} {z : Option (List Value)} {K : PV → Prop} (h : 0 < l.length) (hK : K (vI (l.getD 0 fr0).tries)) : loadPV ⟨false, 1, n, z⟩ ((l.flatMap cFr).drop 1) K := by
  cases l with
  | nil => exact absurd h (Nat.not_lt_zero _)
  | cons x l =>
    show loadPV _ (vI x.tries :: _) K
    rw [loadPV_one]; exact hK
theorem fsP_cells (q : Nat → Fr × Bool) (hq : ∀ k, k < 20 → (q k).2 = true → FrIn (q k).1) : ∀ f ∈ fsP q 20, 0 ≤ f.cell ∧ f.cell ≤ 19 := fun f hf => by
  unfold fsP at hf
  simp only [List.mem_append, List.mem_map, List.mem_range, List.mem_replicate] at hf
  rcases hf with ⟨k, hk, rfl⟩ | ⟨_, rfl⟩
  · unfold fP
    split
    · exact (hq k hk (by assumption)).2.2.2.1
    · simp [fr0]
  · simp [fr0]
theorem rdP_length (fs : List Fr) (turn : Int) : ∀ (k next : Nat) (above : Int) (pages : List ByteArray), (rdP fs turn k next above pages).2.length = pages.length
  | 0, _, _, _ => rfl
  | k + 1, next, above, pages => by
    unfold rdP
    split
    · rfl
    · rw [rdP_length fs turn k, putFs_length]
theorem storeReadI_pages (d : Dk) : (storeReadI d).1.pages.length ≤ 20 := by
  unfold storeReadI
  split
  · unfold readI readU
    split
    · exact Nat.zero_le _
    · split
      · exact Nat.zero_le _
      · dsimp only
        rw [rdP_length]
        unfold pagesOf
        rw [List.length_take]
        omega
  · exact Nat.zero_le _
end Go.Pv

/- Plain law, part 3: what the reference reads of a disk is what the program reads. -/
set_option linter.unusedVariables false
set_option linter.unusedSimpArgs false
namespace Go.Pv
theorem anyTo_congr {f f' : Nat → Bool} : ∀ n, (∀ k, k < n → f k = f' k) → anyTo f n = anyTo f' n
  | 0, _ => rfl
  | n + 1, h => by unfold anyTo; rw [anyTo_congr n (fun k hk => h k (by omega)), h n (by omega)]
theorem anyTo_any {p : ByteArray → Bool} {l : List ByteArray} : ∀ n, n ≤ l.length → anyTo (fun k => p (l.getD k ByteArray.empty)) n = (l.take n).any p
  | 0, _ => by simp [anyTo]
  | n + 1, h => by
    unfold anyTo
    rw [anyTo_any n (by omega), List.take_add_one, List.getElem?_eq_getElem (by omega : n < l.length), List.getD_eq_getElem?_getD, List.getElem?_eq_getElem (by omega : n < l.length), List.any_append]
    simp
theorem getD_take {l : List ByteArray} {i n : Nat} (h : i < n) : (l.take n).getD i ByteArray.empty = l.getD i ByteArray.empty := by
  rw [List.getD_eq_getElem?_getD, List.getElem?_take_of_lt h, ← List.getD_eq_getElem?_getD]
theorem turn_eq (c : List ByteArray) : tI (c.take 2) 2 = max (turnL (c.getD 0 ByteArray.empty) 0) (turnL (c.getD 1 ByteArray.empty) 1) := by
  rw [turnL_eq, turnL_eq]
  have h0 := turnI_bd (c.getD 0 ByteArray.empty)
  have h1 := turnI_bd (c.getD 1 ByteArray.empty)
  unfold tI tI tI
  rw [getD_take (by omega), getD_take (by omega)]
  generalize turnI (c.getD 0 ByteArray.empty) = a at h0 ⊢
  generalize turnI (c.getD 1 ByteArray.empty) = b at h1 ⊢
  (repeat' split) <;> omega
def wtOf (f : Fr) : Wt := ⟨f.cell, f.text⟩
theorem gOf_eq {c : List ByteArray} {turn : Int} {n : Nat} (ht : 1 ≤ turn ∧ turn ≤ 99999) (hn : n < 20) :
    gOf c turn n = if (qOf c n).2 = true ∧ (qOf c n).1.turn = turn then ((qOf c n).1.tries, (qOf c n).1.last, wtOf (qOf c n).1) else (0, false, wt0) := getOf_eq ht (by omega)
theorem qOf_in {c : List ByteArray} {n : Nat} (hn : n < 20) (h : (qOf c n).2 = true) : FrIn (qOf c n).1 := (frGet_sound (by omega) h).1
theorem late_eq {c : List ByteArray} {turn : Int} {n : Nat} (ht : 1 ≤ turn ∧ turn ≤ 99999) (hn : n < 20) : lateAt c turn n = lateP (qOf c) turn n := by
  rw [Bool.eq_iff_iff]
  unfold lateAt lateP
  simp only [decide_eq_true_eq, Bool.and_eq_true]
  have hown : ∀ f : Fr, FrIn f → frOf f = c.getD (22 + n) ByteArray.empty → ownAt c n = f.turn := fun f hf e => by
    have e' : frameB f.turn f.tries f.place f.cell f.last f.text = c.getD (22 + n) ByteArray.empty := e
    have h1 := hf.1
    have h2 := own_frame (turn := f.turn) (tries := f.tries) (place := f.place) (cell := f.cell) f.last f.text (by omega) (by omega)
    rw [e'] at h2
    exact h2
  have hq : qOf c n = frGet (c.getD (22 + n) ByteArray.empty) n := rfl
  rw [hq]
  generalize ownAt c n = O at hown ⊢
  generalize c.getD (22 + n) ByteArray.empty = s at hown ⊢
  constructor
  · rintro ⟨h1, h2, h3⟩
    obtain ⟨h4, h5⟩ := getOf_sound (s := s) (turn := O) (place := n) (by omega) (by omega) h1
    generalize getOf s O n = r at h4 h5
    have := frGet_frame h4
    rw [h5] at this
    have h6 : frGet s n = (⟨O, r.1, n, r.2.2.cell, r.2.1, r.2.2.text⟩, true) := this
    rw [h6]
    exact ⟨rfl, h2⟩
  · rintro ⟨h1, h2⟩
    obtain ⟨h3, h4, h5⟩ := frGet_sound (s := s) (place := n) (by omega) h1
    generalize frGet s n = r at h2 h3 h4 h5
    have hg := getOf_frame h3
    have e := hown _ h3 h5
    rw [h5, h4, ← e] at hg
    rw [hg]
    have h6 := h3.1
    have h7 := h3.2.1
    exact ⟨by dsimp only; omega, by omega, by omega⟩
theorem tr_eq {g : Nat → Int × Bool × Wt} {q : Nat → Fr × Bool} {turn : Int} (hq : ∀ n, n < 20 → (q n).2 = true → FrIn (q n).1) (hg : ∀ n, n < 20 → g n = if (q n).2 = true ∧ (q n).1.turn = turn then ((q n).1.tries, (q n).1.last, wtOf (q n).1) else (0, false, wt0)) : ∀ n, n ≤ 20 → trL g n = trP q turn n ∧ 0 ≤ trL g n
  | 0, _ => ⟨rfl, Int.le_refl _⟩
  | n + 1, h => by
    obtain ⟨h1, h2⟩ := tr_eq hq hg n (by omega)
    have h3 := hg n (by omega)
    have ha : trL g (n + 1) = max (trL g n) (g n).1 := rfl
    have hb : trP q turn (n + 1) = if (q n).2 = true ∧ (q n).1.turn = turn then max (trP q turn n) (q n).1.tries else trP q turn n := rfl
    rw [ha, hb, h3]
    split
    · rename_i hc
      have := hq n (by omega) hc.1
      have := this.2.1
      dsimp only
      exact ⟨by rw [h1], by omega⟩
    · dsimp only; omega
theorem fsP_getD (q : Nat → Fr × Bool) {n : Nat} (h : n < 20) : (fsP q 20).getD n fr0 = fP q n := by
  unfold fsP
  rw [List.getD_eq_getElem?_getD, List.getElem?_append_left (by simpa using h), List.getElem?_map, List.getElem?_range h]
  rfl
theorem take_map_succ {fs : List Fr} {place n : Nat} (h1 : place ≤ n) (h2 : n < fs.length) : ((fs.drop place).take (n + 1 - place)).map wtOf = ((fs.drop place).take (n - place)).map wtOf ++ [wtOf (fs.getD n fr0)] := by
  rw [show n + 1 - place = (n - place) + 1 by omega, List.take_add_one, List.getElem?_drop, show place + (n - place) = n by omega, List.getElem?_eq_getElem h2, List.map_append, List.getD_eq_getElem?_getD, List.getElem?_eq_getElem h2]
  rfl
theorem grp_eq {g : Nat → Int × Bool × Wt} {q : Nat → Fr × Bool} {turn above : Int} {place : Nat} (hab : 0 ≤ above) (ht : 1 ≤ turn) (hq : ∀ n, n < 20 → (q n).2 = true → FrIn (q n).1)
    (hg : ∀ n, n < 20 → g n = if (q n).2 = true ∧ (q n).1.turn = turn then ((q n).1.tries, (q n).1.last, wtOf (q n).1) else (0, false, wt0)) :
    ∀ (k n : Nat) (own : Int) (out : List Wt), n + k = 20 → ((n = place ∧ own = 0 ∧ out = []) ∨ (place < n ∧ own = ((fsP q 20).getD place fr0).tries ∧ 0 < own ∧ out = (((fsP q 20).drop place).take (n - place)).map wtOf)) →
      grpGo g above k n own out = if grpP (fsP q 20) turn above place k n = 0 then (0, 0, []) else ((grpP (fsP q 20) turn above place k n : Int), ((fsP q 20).getD place fr0).tries, (((fsP q 20).drop place).take (grpP (fsP q 20) turn above place k n)).map wtOf)
  | 0, n, own, out, _, _ => rfl
  | k + 1, n, own, out, hn, hst => by
    have hlen := fsP_length q 20 (by omega)
    have hgn := hg n (by omega)
    have hfn := fsP_getD q (n := n) (by omega)
    have hpl : place ≤ n := by rcases hst with h | h <;> omega
    have hout : out = (((fsP q 20).drop place).take (n - place)).map wtOf := by
      rcases hst with ⟨rfl, _, rfl⟩ | h
      · rw [Nat.sub_self]; rfl
      · exact h.2.2.2
    have houtl : out.length = n - place := by rw [hout, List.length_map, List.length_take, List.length_drop]; omega
    by_cases hc : (q n).2 = true ∧ (q n).1.turn = turn
    · have hin := (hq n (by omega) hc.1).2.1
      rw [if_pos hc] at hgn
      have hf : (fsP q 20).getD n fr0 = (q n).1 := by rw [hfn]; unfold fP; rw [if_pos hc.1]
      have hcond : ((g n).1 ≤ above ∨ (0 < own ∧ (g n).1 ≠ own)) ↔ (((fsP q 20).getD n fr0).turn ≠ turn ∨ ((fsP q 20).getD n fr0).tries ≤ above ∨ ((fsP q 20).getD n fr0).tries ≠ ((fsP q 20).getD place fr0).tries) := by
        rw [hgn, hf]
        dsimp only
        rcases hst with ⟨rfl, h1, _⟩ | ⟨h0, h1, h2, _⟩
        · rw [hf]; have := hc.2; omega
        · have := hc.2; omega
      unfold grpGo grpP
      by_cases hx : (g n).1 ≤ above ∨ (0 < own ∧ (g n).1 ≠ own)
      · rw [if_pos hx, if_pos (hcond.1 hx)]; rfl
      · have hx' : ¬ (((fsP q 20).getD n fr0).turn ≠ turn ∨ ((fsP q 20).getD n fr0).tries ≤ above ∨ ((fsP q 20).getD n fr0).tries ≠ ((fsP q 20).getD place fr0).tries) := fun h => hx (hcond.2 h)
        have htr : ((fsP q 20).getD place fr0).tries = (q n).1.tries := by rw [hf] at hx'; omega
        rw [if_neg hx, if_neg hx']
        have hw : wtOf (q n).1 = (g n).2.2 := by rw [hgn]
        have hout1 : out ++ [(g n).2.2] = (((fsP q 20).drop place).take (n + 1 - place)).map wtOf := by rw [take_map_succ hpl (by omega), hf, hout, hw]
        by_cases hl : (g n).2.1 = true
        · have hl' : ((fsP q 20).getD n fr0).last = true := by rw [hf]; rw [hgn] at hl; exact hl
          rw [if_pos hl, if_pos hl', if_neg (by omega), htr, hout1, houtl]
          rw [show (g n).1 = (q n).1.tries by rw [hgn]]
          congr 1
          omega
        · have hl' : ¬ ((fsP q 20).getD n fr0).last = true := by rw [hf]; rw [hgn] at hl; exact hl
          rw [if_neg hl, if_neg hl']
          refine grp_eq hab ht hq hg k (n + 1) _ _ (by omega) (.inr ⟨by omega, ?_, ?_, hout1⟩)
          · rw [htr, hgn]
          · rw [hgn]; dsimp only; omega
    · rw [if_neg hc] at hgn
      have hf : ((fsP q 20).getD n fr0).turn ≠ turn := by
        rw [hfn]
        unfold fP
        split
        · rename_i h; exact fun e => hc ⟨h, e⟩
        · show (0 : Int) ≠ turn; omega
      unfold grpGo grpP
      rw [if_pos (Or.inl (by rw [hgn]; exact hab)), if_pos (Or.inl hf)]
      rfl
theorem putPs_map (l : List ByteArray) (fs : List Fr) : putPs l (fs.map wtOf) = putFs l fs := by
  unfold putPs putFs
  rw [List.foldl_map]
  rfl
theorem rd_eq {g : Nat → Int × Bool × Wt} {q : Nat → Fr × Bool} {turn : Int} (ht : 1 ≤ turn) (hq : ∀ n, n < 20 → (q n).2 = true → FrIn (q n).1)
    (hg : ∀ n, n < 20 → g n = if (q n).2 = true ∧ (q n).1.turn = turn then ((q n).1.tries, (q n).1.last, wtOf (q n).1) else (0, false, wt0)) :
    ∀ (k next : Nat) (above : Int) (pages : List ByteArray), next ≤ 20 → 0 ≤ above → rdGo g k next above pages = rdP (fsP q 20) turn k next above pages
  | 0, _, _, _, _, _ => rfl
  | k + 1, next, above, pages, hn, hab => by
    unfold rdGo rdP
    have he := grp_eq (place := next) hab ht hq hg (20 - next) next 0 [] (by omega) (.inl ⟨rfl, rfl, rfl⟩)
    have hle := grpP_le (fs := fsP q 20) (turn := turn) (above := above) (place := next) (20 - next) next (Nat.le_refl _)
    rw [he]
    generalize grpP (fsP q 20) turn above next (20 - next) next = m at hle ⊢
    by_cases hm : m = 0
    · rw [if_pos hm, if_pos hm]; rfl
    · rw [if_neg hm, if_neg hm]
      dsimp only
      rw [if_pos (by omega), Int.toNat_natCast, putPs_map]
      refine rd_eq ht hq hg k _ _ _ (by omega) ?_
      rw [fsP_getD q (by omega)]
      unfold fP
      split
      · rename_i h; have := (hq next (by omega) h).2.1; omega
      · exact Int.le_refl _
theorem read_eq (d : Dk) (h : d.cells.length = 42) : readD d = readI d := by
  unfold readD readI
  rw [turn_eq]
  have hb0 := turnL_in (d.cells.getD 0 ByteArray.empty) 0
  have hb1 := turnL_in (d.cells.getD 1 ByteArray.empty) 1
  have hT : 0 ≤ max (turnL (d.cells.getD 0 ByteArray.empty) 0) (turnL (d.cells.getD 1 ByteArray.empty) 1) ∧ max (turnL (d.cells.getD 0 ByteArray.empty) 0) (turnL (d.cells.getD 1 ByteArray.empty) 1) ≤ 99999 := by omega
  generalize max (turnL (d.cells.getD 0 ByteArray.empty) 0) (turnL (d.cells.getD 1 ByteArray.empty) 1) = turn at hT ⊢
  unfold readT readU
  by_cases h0 : turn = 0
  · rw [if_pos (.inl h0), if_pos (.inl h0)]
  · have ht : 1 ≤ turn ∧ turn ≤ 99999 := by omega
    have hq : ∀ n, n < 20 → (qOf d.cells n).2 = true → FrIn (qOf d.cells n).1 := fun n hn h => qOf_in hn h
    have hg : ∀ n, n < 20 → gOf d.cells turn n = if (qOf d.cells n).2 = true ∧ (qOf d.cells n).1.turn = turn then ((qOf d.cells n).1.tries, (qOf d.cells n).1.last, wtOf (qOf d.cells n).1) else (0, false, wt0) := fun n hn => gOf_eq ht hn
    rw [anyTo_congr 20 (fun k hk => late_eq ht hk), rd_eq ht.1 hq hg 21 0 0 _ (by omega) (by omega), (tr_eq hq hg 20 (by omega)).1]
    have hpl : (rdP (fsP (qOf d.cells) 20) turn 21 0 0 (pagesOf d.cells)).2.length = 20 := by rw [rdP_length]; unfold pagesOf; rw [List.length_take, List.length_drop]; omega
    have hbig : bigPage (rdP (fsP (qOf d.cells) 20) turn 21 0 0 (pagesOf d.cells)).2 = (rdP (fsP (qOf d.cells) 20) turn 21 0 0 (pagesOf d.cells)).2.any (fun s => decide (1100 < s.size)) := by
      unfold bigPage
      rw [anyTo_any (p := fun s => decide (1100 < s.size)) 20 (by omega), List.take_of_length_le (by omega)]
    rw [hbig]
theorem readD_tries (d : Dk) : 0 ≤ (readD d).1.tries := by
  have key : ∀ (g : Nat → Int × Bool × Wt) (n : Nat), 0 ≤ trL g n := by
    intro g n
    induction n with
    | zero => exact Int.le_refl _
    | succ n ih => have : trL g (n + 1) = max (trL g n) (g n).1 := rfl; omega
  unfold readD readT
  split
  · exact Int.le_refl _
  · split
    · exact Int.le_refl _
    · exact key _ _
theorem storeOk_eq (s : Stor) : storeOkI s = storeOk s := by
  unfold storeOkI storeOk storeReadI
  by_cases hd : dkOk s.disk = true ∧ s.disk.waits.length = 0
  · have hlen : s.disk.cells.length = 42 := by
      have := hd.1
      unfold dkOk at this; simp only [Bool.and_eq_true, decide_eq_true_eq] at this; exact this.1.1.1
    have ht := readD_tries s.disk
    rw [if_pos hd, ← read_eq s.disk hlen, decide_eq_decide]
    constructor
    · rintro ⟨h1, h2, h3, h4, h5, h6⟩
      exact ⟨hd.1, hd.2, by omega, h3, h1, h4.symm, h5.symm, h2, h6.symm⟩
    · rintro ⟨_, _, h3, h4, h5, h6, h7, h8, h9⟩
      exact ⟨h5, h8, h4, h6.symm, h7.symm, h9.symm⟩
  · rw [if_neg hd, decide_eq_decide]
    constructor
    · rintro ⟨h1, _⟩; cases h1
    · rintro ⟨h1, h2, _⟩; exact absurd ⟨h1, h2⟩ hd
theorem storeRead_eq (d : Dk) : storeReadI d = storeRead d := by
  unfold storeReadI storeRead
  by_cases hd : dkOk d = true ∧ d.waits.length = 0
  · have hlen : d.cells.length = 42 := by
      have := hd.1
      unfold dkOk at this; simp only [Bool.and_eq_true, decide_eq_true_eq] at this; exact this.1.1.1
    rw [if_pos hd, if_pos hd, read_eq d hlen]
  · rw [if_neg hd, if_neg hd]
end Go.Pv
