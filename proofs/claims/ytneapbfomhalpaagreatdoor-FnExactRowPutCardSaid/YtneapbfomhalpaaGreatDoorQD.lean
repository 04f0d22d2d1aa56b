/- The store's data and what its texts are, with no program in sight. -/
import Derived.Lib.AtoiAll
import Derived.Lib.Split
import Derived.Lib.Join
import Derived.Lib.Strings
import Derived.Lib.IndexMore
import Derived.Lib.ItoaNum
import Derived.Test.YtneapbfomhalpaaGreatDoorQF
import Derived.Test.YtneapbfomhalpaaGreatDoorQC
set_option linter.unusedVariables false
set_option linter.unusedSimpArgs false
namespace Go.Pv
structure Wt where
  cell : Int
  text : ByteArray
deriving DecidableEq
structure Dk where
  cells : List ByteArray
  waits : List Wt
  room : Int
  left : Int
deriving DecidableEq
structure Stor where
  disk : Dk
  turn : Int
  tries : Int
  next : Int
  pages : List ByteArray
deriving DecidableEq
def ofL (l : List UInt8) : ByteArray := ⟨l.toArray⟩
def itoaB (n : Int) : ByteArray := ⟨(Lib.itoa n).toArray⟩
def cutB (s sep : ByteArray) : ByteArray × ByteArray × Bool := (⟨(Lib.cut s.data.toList sep.data.toList).1.toArray⟩, ⟨(Lib.cut s.data.toList sep.data.toList).2.1.toArray⟩, (Lib.cut s.data.toList sep.data.toList).2.2)
def trimB (s p : ByteArray) : ByteArray := ⟨(Lib.trimPrefix s.data.toList p.data.toList).toArray⟩
def splitL (s sep : ByteArray) : List ByteArray := Lib.splitB sep 0 (Lib.countB s sep) s
def joinB (l : List ByteArray) (sep : ByteArray) : ByteArray := ⟨(Lib.join (l.map (·.data.toList)) sep.data.toList).toArray⟩
def badI (s : ByteArray) : Int := match Lib.atoiAll s.data.toList with | .range => Lib.atoiSat s.data.toList | _ => 0
/-- What the program's own reading of a number is: -1 where there is none. -/
def numI (s : ByteArray) : Int := match Lib.atoiAll s.data.toList with | .ok v => v | _ => -1
def lessOf (n : Int) : Int := if 0 < n then n - 1 else n
def wtOk (x : Wt) : Bool := decide (0 ≤ x.cell ∧ x.cell ≤ 41) && decide (x.text.size ≤ 1200)
def markOf (last : Bool) : ByteArray := if last then ⟨#[33]⟩ else ⟨#[45]⟩
/-- The number that figures are. -/
def digitB (c : UInt8) : Bool := decide (48 ≤ c.toNat ∧ c.toNat ≤ 57)
def valL (l : List UInt8) : Nat := l.foldl (fun n c => n * 10 + (c.toNat - 48)) 0
def numL (l : List UInt8) : Int := if l.all digitB = true ∧ l.length ≤ 9 ∧ l ≠ [] ∧ (1 < l.length → l.getD 0 0 ≠ 48) then valL l else -1
/-- A text cut at a byte. -/
def cutGo (b : UInt8) : Nat → List UInt8 → List UInt8 → List (List UInt8)
  | _, cur, [] => [cur]
  | 0, cur, l => [cur ++ l]
  | k + 1, cur, c :: l => if c = b then cur :: cutGo b k [] l else cutGo b (k + 1) (cur ++ [c]) l
def cutL (s : ByteArray) (b : UInt8) (most : Nat) : List ByteArray := (cutGo b most [] s.data.toList).map ofL
theorem valL_snoc (l : List UInt8) (c : UInt8) : valL (l ++ [c]) = valL l * 10 + (c.toNat - 48) := by simp [valL]
theorem valL_lt : ∀ (l : List UInt8), l.all digitB = true → valL l < 10 ^ l.length := by
  intro l
  have key : ∀ (k : Nat) (l : List UInt8), l.length = k → l.all digitB = true → valL l < 10 ^ k := by
    intro k
    induction k with
    | zero => intro l hl _; rw [List.eq_nil_of_length_eq_zero hl]; simp [valL]
    | succ k ih =>
      intro l hl h
      have hne : l ≠ [] := by intro e; subst e; simp at hl
      rw [← List.dropLast_concat_getLast hne] at h ⊢
      simp only [List.all_append, List.all_cons, List.all_nil, Bool.and_true, Bool.and_eq_true] at h
      rw [valL_snoc]
      have h1 := ih l.dropLast (by simp [hl]) h.1
      have h2 : digitB (l.getLast hne) = true := h.2
      simp only [digitB, decide_eq_true_eq] at h2
      rw [Nat.pow_succ]
      omega
  exact fun h => key _ l rfl h
theorem numL_bad {l : List UInt8} {i : Nat} (hi : i < l.length) (h : digitB (l.getD i 0) = false) : numL l = -1 := by
  unfold numL
  rw [if_neg]
  rintro ⟨h1, -⟩
  have := List.all_eq_true.1 h1 (l.getD i 0) (by rw [List.getD_eq_getElem?_getD, List.getElem?_eq_getElem hi]; exact List.getElem_mem hi)
  rw [h] at this
  cases this
theorem numL_long {l : List UInt8} (h : 9 < l.length) : numL l = -1 := by
  unfold numL
  rw [if_neg]
  rintro ⟨-, h1, -⟩
  omega
theorem take_succ_all {l : List UInt8} {i : Nat} (hi : i < l.length) (h : (l.take i).all digitB = true) (hd : digitB (l.getD i 0) = true) : (l.take (i + 1)).all digitB = true ∧ valL (l.take (i + 1)) = valL (l.take i) * 10 + ((l.getD i 0).toNat - 48) := by
  have e : l.take (i + 1) = l.take i ++ [l.getD i 0] := by
    rw [List.take_add_one, List.getElem?_eq_getElem hi, List.getD_eq_getElem?_getD, List.getElem?_eq_getElem hi]
    rfl
  rw [e]
  exact ⟨by rw [List.all_append, h, List.all_cons, hd]; rfl, valL_snoc _ _⟩
theorem bytes_size (a : Array UInt8) : (ByteArray.mk a).size = a.size := rfl
theorem itoaB_size (n : Int) (h0 : -9223372036854775808 ≤ n) (h1 : n ≤ 9223372036854775807) : (itoaB n).size ≤ 20 := by
  have key : ∀ k : Nat, ∀ u : Nat, u < 10 ^ (k + 1) → Lib.nDigits u ≤ k + 1 := by
    intro k
    induction k with
    | zero => intro u hu; rw [Lib.nDigits_small (by omega)]; omega
    | succ k ih =>
      intro u hu
      rw [Lib.nDigits]
      split
      · omega
      · have := ih (u / 10) (by rw [Nat.pow_succ] at hu; omega)
        omega
  have hd : ∀ u : Nat, u ≤ 9223372036854775808 → (Lib.decDigits u).length ≤ 19 := fun u hu => by rw [Lib.decDigits_length]; exact key 18 u (by omega)
  unfold itoaB Lib.itoa
  show (if n < 0 then 45 :: Lib.decDigits n.natAbs else Lib.decDigits n.toNat).toArray.size ≤ 20
  split
  · have := hd n.natAbs (by omega)
    simp; omega
  · have := hd n.toNat (by omega)
    simp; omega
theorem itoaB_neg {n : Int} (h : n < 0) : itoaB n = (⟨#[45]⟩ : ByteArray) ++ itoaB (-n) := by
  unfold itoaB Lib.itoa
  rw [if_pos h, if_neg (by omega)]
  apply ByteArray.ext
  rw [ByteArray.data_append]
  apply Array.ext'
  rw [Array.toList_append, show (-n).toNat = n.natAbs by omega]
  rfl
def wt0 : Wt := ⟨0, ByteArray.empty⟩
def headB (n : Int) : ByteArray := ⟨#[72]⟩ ++ itoaB n ++ ⟨#[46]⟩ ++ itoaB n ++ ⟨#[59]⟩
def wordsB (turn tries place cell : Int) (last : Bool) (n : Nat) : ByteArray :=
  itoaB turn ++ ⟨#[32]⟩ ++ itoaB tries ++ ⟨#[32]⟩ ++ itoaB place ++ ⟨#[32]⟩ ++ itoaB cell ++ ⟨#[32]⟩ ++ markOf last ++ ⟨#[32]⟩ ++ itoaB n
def frameB (turn tries place cell : Int) (last : Bool) (text : ByteArray) : ByteArray :=
  wordsB turn tries place cell last text.size ++ ⟨#[58]⟩ ++ text ++ ⟨#[58]⟩ ++ itoaB turn ++ ⟨#[46]⟩ ++ itoaB tries ++ ⟨#[59]⟩
structure Fr where
  turn : Int
  tries : Int
  place : Int
  cell : Int
  last : Bool
  text : ByteArray
deriving DecidableEq
def frOf (f : Fr) : ByteArray := frameB f.turn f.tries f.place f.cell f.last f.text
theorem join_words (a b c d e f : ByteArray) : joinB [a, b, c, d, e, f] ⟨#[32]⟩ = a ++ ⟨#[32]⟩ ++ b ++ ⟨#[32]⟩ ++ c ++ ⟨#[32]⟩ ++ d ++ ⟨#[32]⟩ ++ e ++ ⟨#[32]⟩ ++ f := by
  unfold joinB
  apply ByteArray.ext
  apply Array.ext'
  simp [Lib.join, List.intercalate, ByteArray.data_append]
theorem cutGo_len {b : UInt8} : ∀ (l : List UInt8) (k : Nat) (cur : List UInt8), 0 < (cutGo b k cur l).length ∧ ∀ x ∈ cutGo b k cur l, x.length ≤ cur.length + l.length
  | [], k, cur => by simp [cutGo]
  | c :: l, 0, cur => by simp [cutGo]
  | c :: l, k + 1, cur => by
    simp only [cutGo]
    split
    · refine ⟨by simp, fun x hx => ?_⟩
      cases hx with
      | head => simp
      | tail _ hx => have := (cutGo_len l k []).2 x hx; simp at this ⊢; omega
    · refine ⟨(cutGo_len l (k + 1) _).1, fun x hx => ?_⟩
      have := (cutGo_len l (k + 1) _).2 x hx
      simp at this ⊢; omega
theorem cutL_pos (s : ByteArray) (b : UInt8) (k : Nat) : 0 < (cutL s b k).length := by unfold cutL; rw [List.length_map]; exact (cutGo_len _ _ _).1
theorem cutL_size (s : ByteArray) (b : UInt8) (k j : Nat) : ((cutL s b k).getD j ByteArray.empty).size ≤ s.size := by
  rw [List.getD_eq_getElem?_getD]
  cases h : (cutL s b k)[j]? with
  | none => exact Nat.zero_le _
  | some x =>
    have hx := List.mem_of_getElem? h
    unfold cutL at hx
    obtain ⟨y, hy, rfl⟩ := List.mem_map.1 hx
    have := (cutGo_len s.data.toList k []).2 y hy
    have e : (ofL y).size = y.length := by show y.toArray.size = _; simp
    have hz : s.data.toList.length = s.size := rfl
    simp only [Option.getD_some, List.length_nil] at this ⊢
    omega
def sizes6 (l : List ByteArray) : Nat := (l.getD 0 ByteArray.empty).size + (l.getD 1 ByteArray.empty).size + (l.getD 2 ByteArray.empty).size + (l.getD 3 ByteArray.empty).size + (l.getD 4 ByteArray.empty).size + (l.getD 5 ByteArray.empty).size + 6
def numAt (l : List ByteArray) (k : Nat) : Int := numL (l.getD k ByteArray.empty).data.toList
def partsOf (s : ByteArray) : List ByteArray := cutL ((cutL s 58 1).getD 0 ByteArray.empty) 32 5
/-- What the reference reads of a frame's text. -/
def getL (s : ByteArray) (turn place : Int) (l : List ByteArray) : Int × Bool × Wt :=
  if l.length ≠ 6 then (0, false, wt0)
  else if ¬ (1 ≤ numAt l 1 ∧ numAt l 1 ≤ 99) ∨ ¬ (0 ≤ numAt l 3 ∧ numAt l 3 ≤ 19) ∨ ¬ (0 ≤ numAt l 5 ∧ numAt l 5 ≤ 1100) ∨ (s.size : Int) < sizes6 l + numAt l 5 then (0, false, wt0)
  else if frameB turn (numAt l 1) place (numAt l 3) (decide (l.getD 4 ByteArray.empty = ⟨#[33]⟩)) (s.extract (sizes6 l) (sizes6 l + (numAt l 5).toNat)) ≠ s then (0, false, wt0)
  else (numAt l 1, decide (l.getD 4 ByteArray.empty = ⟨#[33]⟩), ⟨numAt l 3, s.extract (sizes6 l) (sizes6 l + (numAt l 5).toNat)⟩)
def getOf (s : ByteArray) (turn place : Int) : Int × Bool × Wt := getL s turn place (partsOf s)
theorem cutB_size1 (s sep : ByteArray) : (cutB s sep).1.size ≤ s.size := by
  show (Lib.cut s.data.toList sep.data.toList).1.toArray.size ≤ s.data.toList.length
  unfold Lib.cut
  split <;> simp
  exact Nat.min_le_right ..
theorem cutB_size2 (s sep : ByteArray) : (cutB s sep).2.1.size ≤ s.size := by
  show (Lib.cut s.data.toList sep.data.toList).2.1.toArray.size ≤ s.data.toList.length
  unfold Lib.cut
  split <;> simp
theorem trimB_size (s p : ByteArray) : (trimB s p).size ≤ s.size := by
  have := Lib.trimPrefix_le s.data.toList p.data.toList
  show (Lib.trimPrefix s.data.toList p.data.toList).toArray.size ≤ s.data.toList.length
  simpa using this
theorem splitB_size (sep : ByteArray) : ∀ (k : Nat) (s x : ByteArray), x ∈ Lib.splitB sep 0 k s → x.size ≤ s.size
  | 0, s, x, h => by rw [Lib.splitB_zero] at h; rw [List.mem_singleton.1 h]; exact Nat.le_refl _
  | k + 1, s, x, h => by
    unfold Lib.splitB at h
    split at h
    · rw [List.mem_singleton.1 h]; exact Nat.le_refl _
    · rcases List.mem_cons.1 h with rfl | h
      · rw [ByteArray.size_extract]; omega
      · have := splitB_size sep k _ x h
        rw [ByteArray.size_extract] at this
        omega
theorem splitL_size (s sep : ByteArray) (k : Nat) : ((splitL s sep).getD k ByteArray.empty).size ≤ s.size := by
  rw [List.getD_eq_getElem?_getD]
  cases h : (splitL s sep)[k]? with
  | none => exact Nat.zero_le _
  | some x => exact splitB_size _ _ _ _ (List.mem_of_getElem? h)
theorem splitL_pos (s sep : ByteArray) : 0 < (splitL s sep).length := by
  unfold splitL Lib.splitB
  split <;> simp
  split <;> simp
def fr0 : Fr := ⟨0, 0, 0, 0, false, ByteArray.empty⟩
/-- What the program reads of a frame's text: its words, what stands behind them. -/
def frL (s rest : ByteArray) (place : Int) (w : List ByteArray) : Fr × Bool :=
  if w.length ≠ 6 then (fr0, false)
  else if ¬ (1 ≤ numI (w.getD 0 ByteArray.empty) ∧ numI (w.getD 0 ByteArray.empty) ≤ 99999) ∨ ¬ (1 ≤ numI (w.getD 1 ByteArray.empty) ∧ numI (w.getD 1 ByteArray.empty) ≤ 99) ∨ numI (w.getD 2 ByteArray.empty) ≠ place ∨
    ¬ (0 ≤ numI (w.getD 3 ByteArray.empty) ∧ numI (w.getD 3 ByteArray.empty) ≤ 19) ∨ ¬ (0 ≤ numI (w.getD 5 ByteArray.empty) ∧ numI (w.getD 5 ByteArray.empty) ≤ 1100 ∧ numI (w.getD 5 ByteArray.empty) ≤ rest.size) then (fr0, false)
  else
    (⟨numI (w.getD 0 ByteArray.empty), numI (w.getD 1 ByteArray.empty), numI (w.getD 2 ByteArray.empty), numI (w.getD 3 ByteArray.empty), decide (w.getD 4 ByteArray.empty = ⟨#[33]⟩), rest.extract 0 (numI (w.getD 5 ByteArray.empty)).toNat⟩,
      decide (frOf ⟨numI (w.getD 0 ByteArray.empty), numI (w.getD 1 ByteArray.empty), numI (w.getD 2 ByteArray.empty), numI (w.getD 3 ByteArray.empty), decide (w.getD 4 ByteArray.empty = ⟨#[33]⟩), rest.extract 0 (numI (w.getD 5 ByteArray.empty)).toNat⟩ = s))
def frGet (s : ByteArray) (place : Int) : Fr × Bool := frL s (cutB s ⟨#[58]⟩).2.1 place (splitL (cutB s ⟨#[58]⟩).1 ⟨#[32]⟩)
/-- The turn that the reference reads of a head. -/
def turnN (s : ByteArray) (place n : Int) : Int := if 1 ≤ n ∧ n ≤ 99999 ∧ n.tmod 2 = place ∧ headB n = s then n else 0
def turnL (s : ByteArray) (place : Int) : Int := if 2 ≤ s.size ∧ s.data.toList.getD 0 0 = 72 then turnN s place (numL ((cutL (s.extract 1 s.size) 46 1).getD 0 ByteArray.empty).data.toList) else 0
/-- The turn that the program reads of a head. -/
def turnM (s : ByteArray) (n : Int) : Int := if 1 ≤ n ∧ n ≤ 99999 ∧ headB n = s then n else 0
def turnI (s : ByteArray) : Int := turnM s (numI (cutB (trimB s ⟨#[72]⟩) ⟨#[46]⟩).1)
/-- What the reference reads of the log at a turn. -/
def gOf (c : List ByteArray) (turn : Int) (n : Nat) : Int × Bool × Wt := getOf (c.getD (22 + n) ByteArray.empty) turn n
/-- A group of frames. -/
def grpGo (g : Nat → Int × Bool × Wt) (above : Int) : Nat → Nat → Int → List Wt → Int × Int × List Wt
  | 0, _, _, _ => (0, 0, [])
  | k + 1, n, own, out =>
    if (g n).1 ≤ above ∨ (0 < own ∧ (g n).1 ≠ own) then (0, 0, [])
    else if (g n).2.1 = true then ((out.length : Int) + 1, (g n).1, out ++ [(g n).2.2])
    else grpGo g above k (n + 1) (g n).1 (out ++ [(g n).2.2])
def putPs (l : List ByteArray) (ws : List Wt) : List ByteArray := ws.foldl (fun out x => out.set x.cell.toNat x.text) l
def trL (g : Nat → Int × Bool × Wt) : Nat → Int
  | 0 => 0
  | n + 1 => max (trL g n) (g n).1
def anyTo (f : Nat → Bool) : Nat → Bool
  | 0 => false
  | n + 1 => anyTo f n || f n
theorem anyTo_hit {f : Nat → Bool} : ∀ {n k : Nat}, k < n → f k = true → anyTo f n = true
  | 0, _, h, _ => absurd h (Nat.not_lt_zero _)
  | n + 1, k, h, hf => by
    unfold anyTo
    by_cases e : k = n
    · subst e; rw [hf, Bool.or_true]
    · rw [anyTo_hit (by omega) hf, Bool.true_or]
def ownAt (c : List ByteArray) (n : Nat) : Int := numL ((cutL (c.getD (22 + n) ByteArray.empty) 32 1).getD 0 ByteArray.empty).data.toList
def lateAt (c : List ByteArray) (turn : Int) (n : Nat) : Bool := decide (0 < (getOf (c.getD (22 + n) ByteArray.empty) (ownAt c n) n).1 ∧ turn < ownAt c n ∧ ownAt c n ≤ 99999)
theorem numL_in (l : List UInt8) : -1 ≤ numL l ∧ numL l ≤ 999999999 := by
  unfold numL
  split
  · rename_i h
    have h1 := valL_lt l h.1
    have h2 : 10 ^ l.length ≤ 10 ^ 9 := Nat.pow_le_pow_right (by omega) h.2.1
    omega
  · omega
def dkOk (d : Dk) : Bool := decide (d.cells.length = 42 ∧ d.waits.length ≤ 100 ∧ -1 ≤ d.room ∧ -1 ≤ d.left) && d.cells.all (fun s => decide (s.size ≤ 1200)) && d.waits.all wtOk
end Go.Pv

/- The store's data, and how its values look to the walks. -/
set_option linter.unusedVariables false
set_option linter.unusedSimpArgs false
namespace Go.Pv
abbrev vI (n : Int) : PV := .b (.int .i64 n)
abbrev vB (b : Bool) : PV := .b (.bool b)
abbrev cWt (x : Wt) : List PV := [vI x.cell, vS x.text]
abbrev vWt (x : Wt) : PV := .agg [vI x.cell, vS x.text]
abbrev vWts (l : List Wt) : PV := .val l.length (l.flatMap cWt)
abbrev vDk (d : Dk) : PV := .agg [.val d.cells.length (d.cells.map vS), .val d.waits.length (d.waits.flatMap cWt), vI d.room, vI d.left]
abbrev vStor (s : Stor) : PV := .agg [.val s.disk.cells.length (s.disk.cells.map vS), .val s.disk.waits.length (s.disk.waits.flatMap cWt), vI s.disk.room, vI s.disk.left, vI s.turn, vI s.tries, vI s.next, .val s.pages.length (s.pages.map vS)]
theorem tdiv_wrap {n k : Nat} (h : (n : Int) ≤ 9223372036854775807) : IntKind.i64.wrap ((n : Int).tdiv k) = ((n / k : Nat) : Int) := by
  have e : (n : Int).tdiv k = ((n / k : Nat) : Int) := by rw [Int.tdiv_eq_ediv_of_nonneg (by omega)]; simp
  have hle : n / k ≤ n := Nat.div_le_self ..
  generalize n / k = q at e hle
  rw [e, wrap_id (by omega) (by omega)]
theorem itoaB_small {n : Nat} (h : n < 10) : itoaB n = ofInts [((48 + n : Nat) : Int)] := by
  unfold itoaB Lib.itoa
  rw [if_neg (by omega), Int.toNat_natCast, Lib.decDigits_one h]
  rfl
theorem u8wrap {n : Nat} (h : n < 256) : IntKind.u8.wrap n = n := by
  have : IntKind.u8.wrap (n : Int) = (n : Int) % 256 := by simp [IntKind.wrap, IntKind.bits, IntKind.signed]
  omega
theorem ofInts_size (l : List Int) : (ofInts l).size = l.length := by
  have key : ∀ (l : List Int) (b : ByteArray), (l.foldl (fun r n => r.push (UInt8.ofNat n.toNat)) b).size = b.size + l.length := by
    intro l
    induction l with
    | nil => intro b; rfl
    | cons x l ih => intro b; rw [List.foldl_cons, ih, ByteArray.size_push, List.length_cons]; omega
  have := key l ByteArray.empty
  unfold ofInts
  simpa using this
theorem itoaB_step {n : Nat} (h : 10 ≤ n) : itoaB n = itoaB (n / 10 : Nat) ++ ofInts [((48 + n % 10 : Nat) : Int)] := by
  unfold itoaB Lib.itoa
  rw [if_neg (by omega), if_neg (by omega), Int.toNat_natCast, Int.toNat_natCast, Lib.decDigits, dif_neg (by omega)]
  apply ByteArray.ext
  rw [ByteArray.data_append]
  have e : ((48 + n % 10 : Nat) : Int).toNat = 48 + n % 10 := Int.toNat_natCast _
  simp only [ofInts, List.foldl_cons, List.foldl_nil, e]
  apply Array.ext'
  rw [Array.toList_append]
  rfl
variable {P : Program}
theorem cln_wts {n : Nat} {l : List Wt} : Cln P (.val n (l.flatMap cWt)) := Cln.val (by
  intro x hx
  simp only [List.mem_flatMap, List.mem_cons, List.not_mem_nil, or_false] at hx
  obtain ⟨_, _, rfl | rfl⟩ := hx <;> exact Cln.b _)
def Flat (P : Program) (xs : List PV) : Prop := ∀ x ∈ xs, Cln P x ∧ ((∃ v, x = .b v) ∨ ∃ n ys, x = .val n ys)
theorem flat_b {v : Value} : Cln P (.b v) ∧ ((∃ u, PV.b v = .b u) ∨ ∃ n ys, PV.b v = .val n ys) := ⟨Cln.b v, .inl ⟨v, rfl⟩⟩
theorem flat_strs {l : List ByteArray} : Flat P (l.map vS) := fun x hx => by
  simp only [List.mem_map] at hx
  obtain ⟨y, _, rfl⟩ := hx
  exact flat_b
theorem flat_wts {l : List Wt} : Flat P (l.flatMap cWt) := fun x hx => by
  simp only [List.mem_flatMap, List.mem_cons, List.not_mem_nil, or_false] at hx
  obtain ⟨_, _, rfl | rfl⟩ := hx <;> exact flat_b
theorem flat_nil : Flat P [] := fun x hx => by cases hx
theorem Flat.cons {x : PV} {xs : List PV} (h1 : Cln P x ∧ ((∃ v, x = .b v) ∨ ∃ n ys, x = .val n ys)) (h2 : Flat P xs) : Flat P (x :: xs) := fun y hy => by
  rcases List.mem_cons.1 hy with rfl | hy
  · exact h1
  · exact h2 y hy
theorem flat_vstrs {n : Nat} {l : List ByteArray} : Cln P (.val n (l.map vS)) ∧ ((∃ v, PV.val n (l.map vS) = .b v) ∨ ∃ n' ys, PV.val n (l.map vS) = .val n' ys) := ⟨cln_strs, .inr ⟨_, _, rfl⟩⟩
theorem flat_vwts {n : Nat} {l : List Wt} : Cln P (.val n (l.flatMap cWt)) ∧ ((∃ v, PV.val n (l.flatMap cWt) = .b v) ∨ ∃ n' ys, PV.val n (l.flatMap cWt) = .val n' ys) := ⟨cln_wts, .inr ⟨_, _, rfl⟩⟩
theorem flat_all2 {κ : Nat → Option Nat} {mem : Mem} : ∀ {xs : List PV}, Flat P xs → All2 (vwC P κ mem) xs xs
  | [], _ => trivial
  | x :: xs, h => ⟨by
      obtain ⟨hc, ⟨v, rfl⟩ | ⟨n, ys, rfl⟩⟩ := h x (List.mem_cons_self ..)
      · exact vwC_b v
      · exact ⟨hc, rfl⟩, flat_all2 fun y hy => h y (List.mem_cons_of_mem _ hy)⟩
theorem Flat.cln {xs : List PV} (h : Flat P xs) : ∀ x ∈ xs, Cln P x := fun x hx => (h x hx).1
theorem Weak.rows {R : Nat → Prop} {s t : St} (E : List Kept) (h1 : (E.map (·.old)).Nodup) (h2 : (E.map (·.new)).Nodup) (h3 : ∀ e ∈ E, s.mem e.old = .row e.t e.xs ∧ Flat P e.xs)
    (h4 : t.mem = keptMem E) (h5 : All2 (vw P (kap E) s.mem) s.tmps t.tmps) (hR : ∀ i, R i → kap E i = some i) : Weak P R s t :=
  Weak.intro E h1 h2 (fun e he => ⟨e.xs, (h3 e he).1, flat_all2 (h3 e he).2⟩) h4 h5 hR
theorem getD_of_lt {l : List ByteArray} {k : Nat} (h : k < l.length) : l[k] = l.getD k ByteArray.empty := by simp [h]
theorem load_strs {l : List ByteArray} {k n : Nat} {z : Option (List Value)} {K : PV → Prop} (h : k < l.length) (hK : K (vS (l.getD k ByteArray.empty))) : loadPV ⟨false, 1, n, z⟩ ((l.map vS).drop k) K :=
  load_map h (by rw [getD_of_lt h]; exact hK)
theorem load_wts {l : List Wt} {k n : Nat} {z : Option (List Value)} {K : PV → Prop} (h : k < l.length) (hK : K (vWt (l.getD k wt0))) : loadPV ⟨true, 2, n, z⟩ ((l.flatMap cWt).drop (k * 2)) K :=
  loadPV_drop (g := cWt) (fun _ => rfl) h (by have e : l[k] = l.getD k wt0 := (by simp [h]); rw [e]; exact hK)
theorem Out.val {k n n' : Nat} {t : TypeId} {xs ys : List PV} {m : Mem} (hk : m k = .row t xs) (hf : Flat P xs) (hx : xs = ys) (hn : n = n') : Out P (.val n' ys) [] (.ref k 0 n) m := by
  subst hx; subst hn
  refine Weak.intro [] (by simp) (by simp) (by simp) rfl ⟨?_, trivial⟩ (fun _ h => h.elim)
  show vwC P (kap []) m (.ref k 0 n) (.val n xs)
  simp only [vwC, kap, hk, List.drop_zero]
  exact ⟨hf.cln, trivial⟩
theorem Out.val3 {a b : Int} {k n n' : Nat} {t : TypeId} {xs ys : List PV} {m : Mem} (hk : m k = .row t xs) (hf : Flat P xs) (hx : xs = ys) (hn : n = n') : Out P (.tup [vI a, vI b, .val n' ys]) [] (.tup [vI a, vI b, .ref k 0 n]) m := by
  subst hx; subst hn
  refine Weak.intro [] (by simp) (by simp) (by simp) rfl ⟨?_, trivial⟩ (fun _ h => h.elim)
  have e1 : ∀ z : Int, vwA P (kap []) m (vI z) (vI z) := fun z => vwC_b (κ := kap []) (mem := m) (.int .i64 z)
  refine ⟨e1 a, e1 b, ?_, trivial⟩
  show vwC P (kap []) m (.ref k 0 n) (.val n xs)
  simp only [vwC, kap, hk, List.drop_zero]
  exact ⟨hf.cln, trivial⟩
theorem len_wts {l : List Wt} : (l.flatMap cWt).length = l.length * 2 := by
  induction l with
  | nil => rfl
  | cons x l ih => simp only [List.flatMap_cons, List.length_append, ih, List.length_cons, List.length_nil]; omega
theorem load_strs0 {l : List ByteArray} {n : Nat} {z : Option (List Value)} {K : PV → Prop} (h : 0 < l.length) (hK : K (vS (l.getD 0 ByteArray.empty))) : loadPV ⟨false, 1, n, z⟩ (l.map vS) K := load_strs (k := 0) h hK
theorem load_wts0 {l : List Wt} {n : Nat} {z : Option (List Value)} {K : PV → Prop} (h : 0 < l.length) (hK : K (vWt (l.getD 0 wt0))) : loadPV ⟨true, 2, n, z⟩ (l.flatMap cWt) K := load_wts (k := 0) h hK
theorem take_strs {l : List ByteArray} : List.take l.length (List.map vS l) = List.map vS l := List.take_of_length_le (by simp)
theorem take_wts {l : List Wt} : List.take (l.length * 2) (List.flatMap cWt l) = List.flatMap cWt l := List.take_of_length_le (by rw [len_wts]; exact Nat.le_refl _)
theorem all_strs {l : List ByteArray} : (List.map vS l).all storable = true := by
  simp only [List.all_map, List.all_eq_true]
  exact fun _ _ => rfl
theorem all_wts {l : List Wt} : (List.flatMap cWt l).all storable = true := by
  induction l with
  | nil => rfl
  | cons x l ih => rw [List.flatMap_cons, List.all_append, ih]; rfl
theorem HOk.err : HOk P .err := .inr (.inr Cln.err)
theorem hok_strs {n : Nat} {l : List ByteArray} : HOk P (.val n (l.map vS)) := .inr (.inr cln_strs)
theorem hok_wts {n : Nat} {l : List Wt} : HOk P (.val n (l.flatMap cWt)) := .inr (.inr cln_wts)
theorem cln_nil : ∀ x ∈ ([] : List PV), Cln P x := fun x hx => by cases hx
theorem shC_strs {k : Nat} {l : List ByteArray} : List.map (shC k) (List.map vS l) = List.map vS l := by
  rw [List.map_map]; rfl
theorem shC_wts {k : Nat} {l : List Wt} : List.map (shC k) (List.flatMap cWt l) = List.flatMap cWt l := by
  induction l with
  | nil => rfl
  | cons x l ih => rw [List.flatMap_cons, List.map_append, ih]; rfl
end Go.Pv

/- The store's data, more. -/
set_option linter.unusedVariables false
set_option linter.unusedSimpArgs false
namespace Go.Pv
variable {P : Program}
theorem clean_wts {n : Nat} {l : List Wt} : Cln P (.val n (l.flatMap cWt)) = True := eq_true cln_wts
theorem drop_wts {l : List Wt} {k : Nat} (h : k < l.length) : (l.flatMap cWt).drop (k * 2) = vI (l.getD k wt0).cell :: vS (l.getD k wt0).text :: (l.flatMap cWt).drop (k * 2 + 2) := by
  induction l generalizing k with
  | nil => exact absurd h (Nat.not_lt_zero _)
  | cons x l ih =>
    cases k with
    | zero => rfl
    | succ k =>
      have := ih (k := k) (by simpa using h)
      rw [show (k + 1) * 2 = k * 2 + 2 by omega]
      exact this
theorem load_wtc {l : List Wt} {k n : Nat} {z : Option (List Value)} {K : PV → Prop} (h : k < l.length) (hK : K (vI (l.getD k wt0).cell)) : loadPV ⟨false, 1, n, z⟩ ((l.flatMap cWt).drop (k * 2)) K := by
  rw [drop_wts h, loadPV_one]; exact hK
theorem load_wtt {l : List Wt} {k n : Nat} {z : Option (List Value)} {K : PV → Prop} (h : k < l.length) (hK : K (vS (l.getD k wt0).text)) : loadPV ⟨false, 1, n, z⟩ ((l.flatMap cWt).drop (k * 2 + 1)) K := by
  rw [← List.drop_drop, drop_wts h, List.drop_succ_cons, List.drop_zero, loadPV_one]; exact hK
theorem load_wtt' {l : List Wt} {k n : Nat} {z : Option (List Value)} {K : PV → Prop} (h : k < l.length) (hK : K (vS (l.getD k wt0).text)) : loadPV ⟨false, 1, n, z⟩ (((l.flatMap cWt).drop (k * 2)).drop 1) K := by
  rw [drop_wts h, List.drop_succ_cons, List.drop_zero, loadPV_one]; exact hK
theorem set_strs {l : List ByteArray} {k : Nat} {s : ByteArray} : (l.map vS).set k (vS s) = (l.set k s).map vS := by rw [List.map_set]
theorem rows_strs {t : TypeId} {l : List ByteArray} : ∀ z ∈ ((t, l.map vS) : TypeId × List PV).2, HOk P z := fun z hz => by
  simp only [List.mem_map] at hz
  obtain ⟨y, _, rfl⟩ := hz
  exact HOk.b _
theorem rows_wts {t : TypeId} {l : List Wt} : ∀ z ∈ ((t, l.flatMap cWt) : TypeId × List PV).2, HOk P z := fun z hz => by
  simp only [List.mem_flatMap, List.mem_cons, List.not_mem_nil, or_false] at hz
  obtain ⟨_, _, rfl | rfl⟩ := hz <;> exact HOk.b _
theorem rows_none : ∀ e ∈ ([] : List (TypeId × List PV)), ∀ z ∈ e.2, HOk P z := fun e he => by cases he
theorem clnM_wts {l : List Wt} : (∀ (z : PV) (x : Wt), x ∈ l → z = vI x.cell ∨ z = .b (.string x.text) → Cln P z) = True := eq_true fun z x _ h => by
  rcases h with rfl | rfl <;> exact Cln.b _
end Go.Pv

/- The laws' helpers: data. -/
set_option linter.unusedVariables false
set_option linter.unusedSimpArgs false
namespace Go.Pv
variable {P : Program}
def wTo (n : Nat) (sz : Nat → Nat) : Nat → Int
  | 0 => n
  | i + 1 => wTo n sz i + sz i
theorem wTo_ge (n : Nat) (sz : Nat → Nat) : ∀ i, (n : Int) ≤ wTo n sz i
  | 0 => Int.le_refl _
  | i + 1 => by have := wTo_ge n sz i; unfold wTo; omega
theorem wTo_le (n : Nat) (sz : Nat → Nat) (i : Nat) : ∀ j, i ≤ j → wTo n sz i ≤ wTo n sz j
  | 0, h => by rw [Nat.le_zero.1 h]; exact Int.le_refl _
  | j + 1, h => by
    rcases Nat.lt_or_ge i (j + 1) with h' | h'
    · have := wTo_le n sz i j (by omega)
      have hst : wTo n sz (j + 1) = wTo n sz j + sz j := rfl
      omega
    · rw [show i = j + 1 by omega]; exact Int.le_refl _
def sub (left w : Int) : Int := if w ≤ left then left - w else -1
def wS (l : List ByteArray) : Int := wTo l.length (fun k => (l.getD k ByteArray.empty).size) l.length
def wW (l : List Wt) : Int := wTo l.length (fun k => (l.getD k wt0).text.size) l.length
/-- What a reader finds of a disk is no longer than a machine's memory. -/
def DkIn (d : Dk) : Prop := d.cells.length ≤ 9223372036854775807 ∧ (∀ k, (d.cells.getD k ByteArray.empty).size ≤ 9223372036854775807) ∧ d.waits.length ≤ 9223372036854775807 ∧ (∀ k, (d.waits.getD k wt0).text.size ≤ 9223372036854775807)
theorem zrep_strs : ∀ n : Nat, zrep n [.b (.string ByteArray.empty)] = (List.replicate n ByteArray.empty).map vS
  | 0 => rfl
  | n + 1 => by rw [zrep, zrep_strs n]; rfl
theorem zrep_wts : ∀ n : Nat, zrep n [.b (.int .i64 0), .b (.string ByteArray.empty)] = (List.replicate n wt0).flatMap cWt
  | 0 => rfl
  | n + 1 => by rw [zrep, zrep_wts n]; rfl
theorem sets_wts {l : List Wt} {i : Nat} {f : Wt} (h : i < l.length) : ((l.flatMap cWt).set (i * 2) (vI f.cell)).set (i * 2 + 1) (vS f.text) = (l.set i f).flatMap cWt := by
  induction l generalizing i with
  | nil => exact absurd h (Nat.not_lt_zero _)
  | cons x l ih =>
    cases i with
    | zero => rfl
    | succ i =>
      have := ih (i := i) (by simpa using h)
      rw [show (i + 1) * 2 = i * 2 + 2 by omega, List.set_cons_succ, List.flatMap_cons (xs := l.set i f), ← this]
      rfl
/-- The first i of a list, the rest of it not yet written. -/
def prt {α : Type} (l : List α) (z : α) (i : Nat) : List α := l.take i ++ List.replicate (l.length - i) z
theorem prt_zero {α : Type} (l : List α) (z : α) : prt l z 0 = List.replicate l.length z := rfl
theorem prt_all {α : Type} (l : List α) (z : α) : prt l z l.length = l := by unfold prt; simp
theorem prt_length {α : Type} (l : List α) (z : α) (i : Nat) (h : i ≤ l.length) : (prt l z i).length = l.length := by unfold prt; simp; omega
theorem prt_succ {α : Type} (l : List α) (z d : α) {i : Nat} (h : i < l.length) : prt l z (i + 1) = (prt l z i).set i (l.getD i d) := by
  unfold prt
  rw [List.set_append_right _ _ (by simp; omega), List.take_add_one, List.getElem?_eq_getElem h, List.getD_eq_getElem?_getD, List.getElem?_eq_getElem h, List.append_assoc]
  congr 1
  rw [List.length_take, Nat.min_eq_left (by omega), Nat.sub_self, show l.length - i = (l.length - (i + 1)) + 1 by omega, List.replicate_succ, List.set_cons_zero]
  rfl
theorem wS_len (l : List ByteArray) : (l.length : Int) ≤ wS l := wTo_ge _ _ _
theorem wW_len (l : List Wt) : (l.length : Int) ≤ wW l := wTo_ge _ _ _
end Go.Pv
