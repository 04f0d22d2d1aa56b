/- A row that a call owns may hold more cells behind its capacity: this text states such rows, and proves for them what the print's words ask of rows. -/
import Derived.Below
import Derived.Deep.AppendLies
import Derived.Maps.AppendAt
import Derived.OwnWalk
import Derived.Laws.OwnMore
import Derived.Lib.ConvBytes
import Derived.Lib.AppendStr
import Derived.Lib.LaidTab
import Derived.Lib.ItoaNum
import Derived.FnData
import Derived.LoopN
import Derived.Orders
import Derived.Laws.Rows
import Derived.ProofKit
import Derived.Laws.Small
import Derived.Laws.Slices
import Derived.Laws.BytesString
import Derived.Lib.SliceRun
import Derived.Laws.StructEq
import Derived.Laws.Tables
set_option linter.unusedVariables false
set_option linter.unusedSimpArgs false
namespace Go

/-- As ownsRow, but that the block may be longer than the slice's capacity (what slices.Clip leaves). -/
def World.ownsC (w : World) (base : Nat) (e : TypeId) (size : Nat) (v : Value) (n : Nat) (xs : List Value) : Prop :=
  xs.length = n * size ∧
  ((v = .slice none 0 0 ∧ n = 0) ∨
   ∃ g cap cur, v = .slice (some ⟨g, 0, none⟩) n cap ∧ base ≤ g ∧ w.heap[g]? = some (.cells cur e (0, 0)) ∧ n ≤ cap ∧ cap ≤ maxLen ∧ cap * size ≤ cur.size ∧ cur.toList.take (n * size) = xs)

section
variable {w : World} {base : Nat} {e : TypeId} {size : Nat} {v : Value} {n : Nat} {xs : List Value}

theorem World.ownsC_of (h : w.ownsRow base e size v n xs) : w.ownsC base e size v n xs := by
  refine ⟨h.1, ?_⟩
  rcases h.2 with h2 | ⟨g, cap, cur, h1, h2, h3, h4, h5, h6, h7⟩
  · exact .inl h2
  · exact .inr ⟨g, cap, cur, h1, h2, h3, h4, h5, Nat.le_of_eq h6.symm, h7⟩

theorem World.ownsC_nil (w : World) (base : Nat) (e : TypeId) (size : Nat) : w.ownsC base e size (.slice none 0 0) 0 [] := ⟨by simp, .inl ⟨rfl, rfl⟩⟩

theorem World.ownsC.lt (h : w.ownsC base e size v n xs) : ∀ k, v.ownBlock = some k → base ≤ k ∧ k < w.heap.size := by
  intro k hk
  rcases h.2 with ⟨rfl, _⟩ | ⟨g, cap, cur, rfl, hb, hg, _⟩
  · simp [Value.ownBlock] at hk
  · simp [Value.ownBlock] at hk
    subst hk
    exact ⟨hb, (Array.getElem?_eq_some_iff.1 hg).1⟩

theorem World.ownsC.kept {w' : World} {row : Option Nat} (h : w.ownsC base e size v n xs) (hg : w.grownBy w' row) (hne : v.ownBlock = none ∨ v.ownBlock ≠ row) : w'.ownsC base e size v n xs := by
  refine ⟨h.1, ?_⟩
  rcases h.2 with hn | ⟨g, cap, cur, rfl, hb, hgg, rest⟩
  · exact .inl hn
  · refine .inr ⟨g, cap, cur, rfl, hb, ?_, rest⟩
    rw [hg.block g (Array.getElem?_eq_some_iff.1 hgg).1 (by simpa [Value.ownBlock] using hne)]
    exact hgg

theorem World.ownsC.alloc (h : w.ownsC base e size v n xs) (o : Obj) : (w.alloc o).ownsC base e size v n xs :=
  h.kept (World.grownBy_alloc w o none) (by cases hv : v.ownBlock <;> simp)

theorem World.ownsC.cells (h : w.ownsC base e size v n xs) {g : Nat} (hg : v.ownBlock = some g) : ∀ j u, xs[j]? = some u → w.cell? ((⟨g, 0, none⟩ : Addr).add j) = some u := by
  intro j u hu
  rcases h.2 with ⟨rfl, _⟩ | ⟨g', cap, cur, rfl, _, hgg, _, _, _, htake⟩
  · simp [Value.ownBlock] at hg
  · simp [Value.ownBlock] at hg
    subst hg
    have hadd : (⟨g', 0, none⟩ : Addr).add j = ⟨g', j, none⟩ := by unfold Addr.add; split <;> simp_all
    rw [hadd, cell_of_row w g' j cur e (0, 0) hgg]
    rw [← htake, List.getElem?_take] at hu
    split at hu
    · simpa using hu
    · cases hu

theorem World.ownsC.form (h : w.ownsC base e size v n xs) (h0 : 0 < n) : ∃ g cap, v = .slice (some ⟨g, 0, none⟩) n cap ∧ base ≤ g ∧ g < w.heap.size := by
  rcases h.2 with ⟨_, h1⟩ | ⟨g, cap, cur, rfl, hb, hh, _⟩
  · omega
  · exact ⟨g, cap, rfl, hb, (Array.getElem?_eq_some_iff.1 hh).1⟩

theorem World.ownsC.drew (h : w.ownsC base e size v n xs) : w.drew.ownsC base e size v n xs := h

theorem World.ownsC_lit (w : World) (cs : Array Value) (n : Nat) (hb : base ≤ w.heap.size) (hm : n ≤ maxLen) (hs : cs.size = n * size) :
    (w.alloc (.cells cs e)).ownsC base e size (.slice (some ⟨w.heap.size, 0, none⟩) n n) n cs.toList := World.ownsC_of (World.ownsRow_lit w cs n hb hm hs)

/-- slices.Clip: the capacity is cut. -/
theorem World.ownsC.clip {A : Option Addr} {c m : Nat} (h : w.ownsC base e size (.slice A n c) n xs) (h1 : n ≤ m) (h2 : m ≤ c) : w.ownsC base e size (.slice A n m) n xs := by
  refine ⟨h.1, ?_⟩
  rcases h.2 with ⟨h', h0⟩ | ⟨g, cap, cur, h', hb, hg, hnc, hcm, hcs, htake⟩
  · simp only [Value.slice.injEq] at h'
    obtain ⟨rfl, _, rfl⟩ := h'
    exact .inl ⟨by congr 1 <;> omega, h0⟩
  · simp only [Value.slice.injEq] at h'
    obtain ⟨rfl, _, rfl⟩ := h'
    exact .inr ⟨g, m, cur, rfl, hb, hg, h1, by omega, Nat.le_trans (Nat.mul_le_mul_right _ h2) hcs, htake⟩
end

section
variable {w : World} {base : Nat} {e : TypeId} {size : Nat} {g n cap : Nat} {xs : List Value}
theorem World.ownsC.cellAt (h : w.ownsC base e size (.slice (some ⟨g, 0, none⟩) n cap) n xs) (j : Nat) (hj : j < n * size) : w.cell? ⟨g, j, none⟩ = xs[j]? := by
  rcases h.2 with ⟨h', _⟩ | ⟨g', cap', cur, h', _, hg, _, _, _, htake⟩
  · simp at h'
  · simp only [Value.slice.injEq, Option.some.injEq, Addr.mk.injEq, and_true, true_and] at h'
    obtain ⟨rfl, rfl⟩ := h'
    rw [cell_of_row w g j cur e (0, 0) hg, ← htake, List.getElem?_take, if_pos hj]
    simp
theorem World.ownsC.frozenAt (h : w.ownsC base e size (.slice (some ⟨g, 0, none⟩) n cap) n xs) (j : Nat) : w.frozen? ⟨g, j, none⟩ = false := by
  rcases h.2 with ⟨h', _⟩ | ⟨g', cap', cur, h', _, hg, _⟩
  · simp at h'
  · simp only [Value.slice.injEq, Option.some.injEq, Addr.mk.injEq, and_true, true_and] at h'
    obtain ⟨rfl, rfl⟩ := h'
    exact frozen_of_row w g j cur e hg
theorem World.ownsC.stored (h : w.ownsC base e size (.slice (some ⟨g, 0, none⟩) n cap) n xs) (j : Nat) (u : Value) :
    (w.setCell ⟨g, j, none⟩ u).ownsC base e size (.slice (some ⟨g, 0, none⟩) n cap) n (xs.set j u) ∧ w.grownBy (w.setCell ⟨g, j, none⟩ u) (some g) := by
  rcases h.2 with ⟨h', _⟩ | ⟨g', cap', cur, h', hb, hg, hnc, hcm, hcs, htake⟩
  · simp at h'
  · simp only [Value.slice.injEq, Option.some.injEq, Addr.mk.injEq, and_true, true_and] at h'
    obtain ⟨rfl, rfl⟩ := h'
    refine ⟨⟨by simpa using h.1, .inr ⟨g, cap, cur.setIfInBounds j u, rfl, hb, heap_setCell_same w g j cur e u hg, hnc, hcm, by simpa using hcs, ?_⟩⟩,
      ⟨rfl, rfl, rfl, by simp, fun k _ hk => heap_setCell_other w ⟨g, j, none⟩ k u (fun e => hk (by simp [e]))⟩⟩
    rw [Array.toList_setIfInBounds, ← htake, List.take_set]
end

section
variable {P : Program} (w : World)
theorem run_append_ownC_at (base : Nat) (t ty e : TypeId) (i : TypeInfo) (z : Value) (size bytes : Nat) (ht : P.underlying t = some (.slice e)) (hi : P.info? e = some i) (hz : i.zero = some z)
    (hsize : i.size = size) (hby : i.bytes = bytes) (hzs : z.cells.size = size) (hsz : 0 < size)
    (v : Value) (n : Nat) (xs : List Value) (hown : w.ownsC base e size v n xs)
    (a : Addr) (m c : Nat) (news : List Value) (hl : news.length = m * size) (hnews : ∀ j u, news[j]? = some u → w.cell? (a.add j) = some u) (h1 : ∀ u ∈ news, u.oneCell' = true)
    (h63 : n + m ≤ maxLen) (hbytes : (n + m) * bytes ≤ 140737488355328) (hbase : base ≤ w.heap.size) :
    ∃ v' w', (Builtin.append_ #[t, t] ty #[v, .slice (some a) m c]).run P w = .ok v' w' ∧ w'.ownsC base e size v' (n + m) (xs ++ news) ∧ w.grownBy w' v.ownBlock ∧
      (v' = .slice none 0 0 ↔ v = .slice none 0 0 ∧ m = 0) ∧ (v'.ownBlock = v.ownBlock ∨ v'.ownBlock = some w.heap.size) := by
  subst hsize
  subst hby
  have hsmall : n + m ≤ 9223372036854775807 := by simp only [maxLen] at h63; omega
  have hlen : (xs ++ news).length = (n + m) * i.size := by rw [List.length_append, hown.1, hl, Nat.add_mul]
  rcases hown.2 with ⟨rfl, rfl⟩ | ⟨g, cap, cur, rfl, hbg, hg, hnc, hcm, hcs, htake⟩
  · have hx : xs = [] := List.eq_nil_of_length_eq_zero (by simpa using hown.1)
    subst hx
    obtain ⟨v', w', h1, h2, h3⟩ := run_append_own_at (P := P) w base t ty e i z i.size i.bytes ht hi hz rfl rfl hzs hsz (.slice none 0 0) 0 [] (World.ownsRow_nil w base e i.size) a m c news hl hnews h1 h63 hbytes hbase
    exact ⟨v', w', h1, World.ownsC_of h2, h3⟩
  · by_cases hroom : n + m ≤ cap
    · have hfit : n * i.size + news.length ≤ cur.size := by rw [hl, ← Nat.add_mul]; exact Nat.le_trans (Nat.mul_le_mul_right _ hroom) hcs
      have hr := run_append_room (P := P) w t ty e i ht hi g n cap cur hg a m c news hl hnews h1 hroom hfit
      refine ⟨_, _, hr, ⟨hlen, .inr ⟨g, cap, _, rfl, hbg, setRow_heap w g cur _ e _ hg, hroom, hcm, ?_, ?_⟩⟩, ⟨rfl, rfl, rfl, by simp, fun k _ hk => setRow_other w g k _ (fun e => hk (by simp [Value.ownBlock, e]))⟩, by simp, Or.inl rfl⟩
      · simp only [List.size_toArray, List.length_append, List.length_take, List.length_drop, Array.length_toList]
        omega
      · rw [htake, ← hlen]
        exact List.take_left
    · have holds : ∀ j u, xs[j]? = some u → w.cell? ((⟨g, 0, none⟩ : Addr).add j) = some u := hown.cells (g := g) rfl
      have hr := run_append_grow (P := P) w t ty e i z ht hi hz ⟨g, 0, none⟩ n cap xs hown.1 holds a m c news hl hnews (by omega) (by omega) (growslice_fits (by omega) hbytes)
      have hge := grownCap_ge w (n + m) cap e
      have hcm : grownCap w (n + m) cap e ≤ maxLen := grownCap_le_maxLen w (n + m) cap e h63
      refine ⟨_, _, hr, ⟨hlen, .inr ⟨w.heap.size, _, _, rfl, hbase, heap_alloc_new w.drew _, hge, hcm, ?_, ?_⟩⟩, ⟨rfl, rfl, rfl, by simp, fun k hk _ => heap_alloc_old w.drew _ k hk⟩, by simp, Or.inr rfl⟩
      · simp only [Array.size_append, List.size_toArray, size_zeroCells, hzs, hown.1, hl, ← Nat.add_mul]
        refine Nat.mul_le_mul_right _ ?_
        omega
      · simp only [Array.toList_append, List.append_assoc]
        rw [← List.append_assoc, ← hlen]
        exact List.take_left

theorem wpList_append_ownC_at {ops : Array Oper} {rest : List Oper} {o : Oper} {a : Act} {Q : Exit → Act → World → Prop} (hgd : o.guard = none) (s x : Operand) (t : TypeId)
    (ho : o.op = .call { callee := .builtin .append, args := #[s, x], argTypes := #[t, t] })
    (base : Nat) (e : TypeId) (i : TypeInfo) (z : Value) (size bytes : Nat) (ht : P.underlying t = some (.slice e)) (hi : P.info? e = some i) (hz : i.zero = some z)
    (hsize : i.size = size) (hby : i.bytes = bytes) (hzs : z.cells.size = size) (hsz : 0 < size)
    (v : Value) (n : Nat) (xs : List Value) (hs : a.eval s = v) (hown : w.ownsC base e size v n xs)
    (ad : Addr) (m c : Nat) (news : List Value) (hx : a.eval x = .slice (some ad) m c) (hl : news.length = m * size) (hnews : ∀ j u, news[j]? = some u → w.cell? (ad.add j) = some u) (h1 : ∀ u ∈ news, u.oneCell' = true)
    (h63 : n + m ≤ maxLen) (hbytes : (n + m) * bytes ≤ 140737488355328) (hbase : base ≤ w.heap.size)
    (h : ∀ v' w', w'.ownsC base e size v' (n + m) (xs ++ news) → w.grownBy w' v.ownBlock → (v' = .slice none 0 0 ↔ v = .slice none 0 0 ∧ m = 0) → (v'.ownBlock = v.ownBlock ∨ v'.ownBlock = some w.heap.size) → wpList P ops Q rest (a.put o.dst v') w') :
    wpList P ops Q (o :: rest) a w := by
  refine wpList_plain hgd fun K hK => ?_
  obtain ⟨v', w', hr, h2, h3, h4, h5⟩ := run_append_ownC_at (P := P) w base t o.type e i z size bytes ht hi hz hsize hby hzs hsz v n xs hown ad m c news hl hnews h1 h63 hbytes hbase
  unfold Oper.wp execOp
  simp only [ho, resolve, invoke, builtin, Sem.run_bind, Sem.run_pure, Result.andThen_ok, List.map_toArray, List.map_cons, List.map_nil, hs, hx, hr]
  exact hK _ _ (h v' w' h2 h3 h4 h5)

theorem run_append_ownedC_none (base : Nat) (t ty e : TypeId) (i : TypeInfo) (size : Nat) (ht : P.underlying t = some (.slice e)) (hi : P.info? e = some i)
    (v : Value) (n : Nat) (xs : List Value) (hown : w.ownsC base e size v n xs) :
    (Builtin.append_ #[t, t] ty #[v, .slice none 0 0]).run P w = .ok v w := by
  rcases hown.2 with ⟨rfl, rfl⟩ | ⟨g, cap, cur, rfl, _, _, hnc, _⟩
  · simp [Builtin.append_, run_underlying ht, sizeOf, typeInfo, hi, Builtin.lenOf, Builtin.firstCells]
  · simp [Builtin.append_, run_underlying ht, sizeOf, typeInfo, hi, Builtin.lenOf, Builtin.firstCells, hnc, storeCells]
end
/-- A cell behind a store into it, whatever it was: no condition, so a walk may store again and again. -/
theorem World.cell?_setCell_map (w : World) (a : Addr) (v : Value) : (w.setCell a v).cell? a = (w.cell? a).map (fun _ => v) := by
  cases h : w.cell? a with
  | some u => exact World.cell?_setCell_same w a v h
  | none =>
    simp only [World.setCell, World.cell?, Array.getElem?_modify, ↓reduceIte] at h ⊢
    cases hh : w.heap[a.block]? with
    | none => simp
    | some x =>
      rw [hh] at h
      cases x <;> simp at h ⊢
      cases hs : a.spot with
      | none =>
        simp [hs] at h ⊢
        omega
      | some _ => simp
end Go
namespace Go.Lib
section
variable {P : Program} (w : World)
theorem run_append_ownC_string (base : Nat) (t u ty e : TypeId) (i : TypeInfo) (ht : P.underlying t = some (.slice e)) (hu : P.underlying u = some .string) (hi : P.info? e = some i) (hz : i.zero = some (.int .u8 0))
    (hsize : i.size = 1) (hby : i.bytes = 1)
    (v : Value) (n : Nat) (xs : List Value) (hown : w.ownsC base e 1 v n xs) (s : ByteArray)
    (h63 : n + s.size ≤ maxLen) (hbytes : n + s.size ≤ 140737488355328) (hbase : base ≤ w.heap.size) :
    ∃ v' w', (Builtin.append_ #[t, u] ty #[v, .string s]).run P w = .ok v' w' ∧ w'.ownsC base e 1 v' (n + s.size) (xs ++ strCells s) ∧ w.grownBy w' v.ownBlock ∧
      (v' = .slice none 0 0 ↔ v = .slice none 0 0 ∧ s.size = 0) := by
  have hsmall : n + s.size ≤ 9223372036854775807 := by simp only [maxLen] at h63; omega
  have hxl : xs.length = n := by simpa using hown.1
  have hlen : (xs ++ strCells s).length = (n + s.size) * 1 := by rw [List.length_append, hxl, strCells_length, Nat.mul_one]
  rcases hown.2 with ⟨rfl, rfl⟩ | ⟨g, cap, cur, rfl, hbg, hg, hnc, hcm, hcs, htake⟩
  · have hx : xs = [] := List.eq_nil_of_length_eq_zero hxl
    subst hx
    obtain ⟨v', w', h1, h2, h3⟩ := run_append_own_string (P := P) w base t u ty e i ht hu hi hz hsize hby (.slice none 0 0) 0 [] (World.ownsRow_nil w base e 1) s h63 hbytes hbase
    exact ⟨v', w', h1, World.ownsC_of h2, h3⟩
  · by_cases hroom : n + s.size ≤ cap
    · have hcs' : cap ≤ cur.size := by simpa using hcs
      have hr := run_append_room_string (P := P) w t u ty e i ht hu hi hsize g n cap cur hg s hroom (by omega)
      refine ⟨_, _, hr, ⟨hlen, .inr ⟨g, cap, _, rfl, hbg, setRow_heap w g cur _ e _ hg, hroom, hcm, ?_, ?_⟩⟩, ⟨rfl, rfl, rfl, by simp, fun k _ hk => setRow_other w g k _ (fun e => hk (by simp [Value.ownBlock, e]))⟩, by simp⟩
      · simp only [List.size_toArray, List.length_append, List.length_take, List.length_drop, Array.length_toList, strCells_length]
        omega
      · have ht' : cur.toList.take n = xs := by simpa using htake
        rw [ht', ← hlen]
        exact List.take_left
    · have holds : ∀ j u, xs[j]? = some u → w.cell? ((⟨g, 0, none⟩ : Addr).add j) = some u := hown.cells (g := g) rfl
      have hr := run_append_grow_string (P := P) w t u ty e i (.int .u8 0) ht hu hi hz ⟨g, 0, none⟩ n cap xs (by rw [hsize]; simpa using hxl) holds s (by omega) (by omega) (by rw [hby]; exact growslice_fits (by omega) (by omega))
      have hge := grownCap_ge w (n + s.size) cap e
      have hcm : grownCap w (n + s.size) cap e ≤ maxLen := grownCap_le_maxLen w (n + s.size) cap e h63
      have hz1 : (Value.int IntKind.u8 0).cells.size = 1 := rfl
      refine ⟨_, _, hr, ⟨hlen, .inr ⟨w.heap.size, _, _, rfl, hbase, heap_alloc_new w.drew _, hge, hcm, ?_, ?_⟩⟩, ⟨rfl, rfl, rfl, by simp, fun k hk _ => heap_alloc_old w.drew _ k hk⟩, by simp⟩
      · simp only [Array.size_append, List.size_toArray, size_zeroCells, hz1, hxl, strCells_length]
        omega
      · simp only [Array.toList_append, List.append_assoc]
        rw [← List.append_assoc, ← hlen]
        exact List.take_left
theorem wpList_append_ownC_string {ops : Array Oper} {rest : List Oper} {o : Oper} {a : Act} {Q : Exit → Act → World → Prop} (hgd : o.guard = none) (sl x : Operand) (t u : TypeId)
    (ho : o.op = .call { callee := .builtin .append, args := #[sl, x], argTypes := #[t, u] })
    (base : Nat) (e : TypeId) (i : TypeInfo) (ht : P.underlying t = some (.slice e)) (hu : P.underlying u = some .string) (hi : P.info? e = some i) (hz : i.zero = some (.int .u8 0))
    (hsize : i.size = 1) (hby : i.bytes = 1)
    (v : Value) (n : Nat) (xs : List Value) (hs : a.eval sl = v) (hown : w.ownsC base e 1 v n xs) (s : ByteArray) (hx : a.eval x = .string s)
    (h63 : n + s.size ≤ maxLen) (hbytes : n + s.size ≤ 140737488355328) (hbase : base ≤ w.heap.size)
    (h : ∀ v' w', w'.ownsC base e 1 v' (n + s.size) (xs ++ strCells s) → w.grownBy w' v.ownBlock → (v' = .slice none 0 0 ↔ v = .slice none 0 0 ∧ s.size = 0) → wpList P ops Q rest (a.put o.dst v') w') : wpList P ops Q (o :: rest) a w := by
  refine wpList_plain hgd fun K hK => ?_
  obtain ⟨v', w', hr, h2, h3, h4⟩ := run_append_ownC_string (P := P) w base t u o.type e i ht hu hi hz hsize hby v n xs hown s h63 hbytes hbase
  unfold Oper.wp execOp
  simp only [ho, resolve, invoke, builtin, Sem.run_bind, Sem.run_pure, Result.andThen_ok, List.map_toArray, List.map_cons, List.map_nil, hs, hx, hr]
  exact hK _ _ (h v' w' h2 h3 h4)
end
end Go.Lib

/- The engine of this session, part 0: package variables of the library that nobody writes. -/
set_option linter.unusedVariables false
set_option linter.unusedSimpArgs false
namespace Go.Pv

/-- The blocks of package variables; what is told of those of the library. -/
def gblk (P : Program) (b : Nat) : Prop := ∃ n, P.globalNamed n = some b
structure Gstd (P : Program) (w : World) : Prop where
  maxLen : ∀ g, P.globalNamed "internal/bytealg.MaxLen" = some g → ∃ m, w.cell? ⟨g, 0, none⟩ = some (.int .i64 m)
  pow : ∀ g, P.globalNamed "internal/strconv.uint64pow10" = some g → Lib.TabIs P w "internal/strconv.uint64pow10" .u64 Lib.pow10Tab
  syn : ∀ g, P.globalNamed "strconv.ErrSyntax" = some g → ∃ tp p, w.var? P "strconv.ErrSyntax" = some #[.iface tp p]
  rng : ∀ g, P.globalNamed "strconv.ErrRange" = some g → ∃ tp p, w.var? P "strconv.ErrRange" = some #[.iface tp p]
structure GL (P : Program) (D : Nat → Prop) (w : World) : Prop where
  dd : ∀ b, gblk P b → D b
  std : Gstd P w
variable {P : Program} {D D' : Nat → Prop} {w w' : World}
theorem var_same (h : ∀ b : Nat, gblk P b → w'.heap[b]? = w.heap[b]?) (n : String) : w'.var? P n = w.var? P n := by
  unfold World.var?
  cases hg : P.globalNamed n with
  | none => rfl
  | some g => simp only [Option.bind_some]; rw [h g ⟨n, hg⟩]
theorem Gstd.same (h : ∀ b : Nat, gblk P b → w'.heap[b]? = w.heap[b]?) (k : Gstd P w) : Gstd P w' := by
  refine ⟨fun g hg => ?_, fun g hg => ?_, fun g hg => ?_, fun g hg => ?_⟩
  · obtain ⟨m, hm⟩ := k.maxLen g hg
    exact ⟨m, by rw [World.cell?_of_block (w := w) (h _ ⟨_, hg⟩)]; exact hm⟩
  · have := k.pow g hg
    unfold Lib.TabIs at *
    rw [var_same h]; exact this
  · rw [var_same h]; exact k.syn g hg
  · rw [var_same h]; exact k.rng g hg
theorem GL.tr (k : GL P D w) (dd : ∀ b, D b → D' b) (same : ∀ b : Nat, D b → w'.heap[b]? = w.heap[b]?) : GL P D' w' :=
  ⟨fun b hb => dd b (k.dd b hb), k.std.same fun b hb => same b (k.dd b hb)⟩
theorem GL.of_eq (k : GL P D w) (h : ∀ b : Nat, w'.heap[b]? = w.heap[b]?) : GL P D w' := k.tr (fun _ h => h) fun b _ => h b
end Go.Pv

/- The engine of this session, part 1: abstract values and memory, and how they stand to a world. -/
set_option linter.unusedVariables false
set_option linter.unusedSimpArgs false
namespace Go.Pv

/-- Abstract values: 'b': a value as it is; 'ptr i o': a pointer to cell o of own row i; 'ref i o n': a slice of n elements from cell o of own row i;
'val n xs': a slice of n elements that nobody writes any more, its cells from the first on; 'eptr xs': a pointer to such cells; 'err': an interface's value that is not nil; 'anyB': true or false; 'any': whatever. -/
inductive PV where
  | b (v : Value)
  | ptr (i o : Nat)
  | ref (i o n : Nat)
  | val (n : Nat) (xs : List PV)
  | eptr (xs : List PV)
  | agg (xs : List PV)
  | tup (xs : List PV)
  | err
  | anyB
  | any

inductive Slot where
  | free
  | dead
  | row (t : TypeId) (xs : List PV)

abbrev Mem := Nat → Slot
def upd (m : Mem) (i : Nat) (s : Slot) : Mem := fun j => if j = i then s else m j
theorem upd_same (m : Mem) (i : Nat) (s : Slot) : upd m i s i = s := by simp [upd]
theorem upd_ne (m : Mem) {i j : Nat} (s : Slot) (h : j ≠ i) : upd m i s j = m j := by simp [upd, h]

abbrev Phi := Nat → Option Nat
def setPhi (φ : Phi) (i b : Nat) : Phi := fun j => if j = i then some b else φ j

inductive RV (P : Program) (φ : Phi) (D : Nat → Prop) (w : World) : PV → Value → Prop
  | b (v : Value) : RV P φ D w (.b v) v
  | any (v : Value) : RV P φ D w .any v
  | err (t : TypeId) (p : Value) : RV P φ D w .err (.iface t p)
  | anyB (b : Bool) : RV P φ D w .anyB (.bool b)
  | ptr {i o bl : Nat} (h : φ i = some bl) : RV P φ D w (.ptr i o) (.pointer (some ⟨bl, o, none⟩))
  | ref {i o n bl c : Nat} (h : φ i = some bl) (hn : n ≤ c)
      (hr : o = 0 → c ≤ maxLen ∧ ∃ (cs : Array Value) (t : TypeId), w.heap[bl]? = some (Obj.cells cs t (0, 0)) ∧ c * P.cellsOf t ≤ cs.size) : RV P φ D w (.ref i o n) (.slice (some ⟨bl, o, none⟩) n c)
  | nil {i o : Nat} : RV P φ D w (.ref i o 0) (.slice none 0 0)
  | ref0 {i o c : Nat} {ad : Option Addr} (h : o ≠ 0) : RV P φ D w (.ref i o 0) (.slice ad 0 c)
  | val {n c : Nat} {xs : List PV} {a : Addr} {f : Nat → Value} (hn : n ≤ c) (hd : D a.block) (hc : ∀ j x, xs[j]? = some x → w.cell? (a.add j) = some (f j))
      (h : ∀ j x, xs[j]? = some x → RV P φ D w x (f j)) : RV P φ D w (.val n xs) (.slice (some a) n c)
  | val0 {xs : List PV} {a : Option Addr} {c : Nat} : RV P φ D w (.val 0 xs) (.slice a 0 c)
  | eptr {xs : List PV} {a : Addr} {f : Nat → Value} (hd : D a.block) (hc : ∀ j x, xs[j]? = some x → w.cell? (a.add j) = some (f j))
      (h : ∀ j x, xs[j]? = some x → RV P φ D w x (f j)) : RV P φ D w (.eptr xs) (.pointer (some a))
  | agg {xs : List PV} {vs : Array Value} (hl : vs.size = xs.length) (h : ∀ j x, xs[j]? = some x → RV P φ D w x (vs.getD j undef)) : RV P φ D w (.agg xs) (.agg vs)
  | tup {xs : List PV} {vs : Array Value} (hl : vs.size = xs.length) (h : ∀ j x, xs[j]? = some x → RV P φ D w x (vs.getD j undef)) : RV P φ D w (.tup xs) (.tuple vs)

/-- From one state of things to a later one: what is named stays named, what nobody writes stays as it is, rows keep their shapes. -/
structure TrW (R : Nat → Prop) (φ : Phi) (D : Nat → Prop) (w : World) (φ' : Phi) (D' : Nat → Prop) (w' : World) : Prop where
  phi : ∀ i b, R i → φ i = some b → φ' i = some b
  dd : ∀ b, D b → D' b
  same : ∀ b : Nat, D b → w'.heap[b]? = w.heap[b]?
  shape : ∀ (b : Nat) (cs : Array Value) (t : TypeId), w.heap[b]? = some (Obj.cells cs t (0, 0)) → ∃ cs' : Array Value, w'.heap[b]? = some (Obj.cells cs' t (0, 0)) ∧ cs'.size = cs.size
  size : w.heap.size ≤ w'.heap.size
  dnew : ∀ b, D' b → D b ∨ w.heap.size ≤ b ∨ ∃ i, φ i = some b
  pnew : ∀ i b, φ' i = some b → w.heap.size ≤ b ∨ ∃ i, φ i = some b
/-- .. and all that has a name keeps it. -/
abbrev Tr := TrW fun _ => True

theorem TrW.refl (R : Nat → Prop) (φ : Phi) (D : Nat → Prop) (w : World) : TrW R φ D w φ D w := ⟨fun _ _ _ h => h, fun _ h => h, fun _ _ => rfl, fun _ cs _ h => ⟨cs, h, rfl⟩, Nat.le_refl _, fun _ h => .inl h, fun i _ h => .inr ⟨i, h⟩⟩
theorem Tr.refl (φ : Phi) (D : Nat → Prop) (w : World) : Tr φ D w φ D w := TrW.refl _ φ D w
theorem TrW.trans {R : Nat → Prop} {φ φ1 φ2 : Phi} {D D1 D2 : Nat → Prop} {w w1 w2 : World} (h : TrW R φ D w φ1 D1 w1) (k : TrW R φ1 D1 w1 φ2 D2 w2) : TrW R φ D w φ2 D2 w2 := by
  have hp : ∀ i b, φ1 i = some b → w.heap.size ≤ b ∨ ∃ i, φ i = some b := h.pnew
  refine ⟨fun i b hR hb => k.phi i b hR (h.phi i b hR hb), fun b hb => k.dd b (h.dd b hb), fun b hb => (k.same b (h.dd b hb)).trans (h.same b hb),
   fun b cs t hb => by obtain ⟨cs1, h1, e1⟩ := h.shape b cs t hb; obtain ⟨cs2, h2, e2⟩ := k.shape b cs1 t h1; exact ⟨cs2, h2, e2.trans e1⟩, Nat.le_trans h.size k.size, fun b hb => ?_, fun i b hb => ?_⟩
  · rcases k.dnew b hb with h1 | h1 | ⟨i, h1⟩
    · exact h.dnew b h1
    · exact .inr (.inl (Nat.le_trans h.size h1))
    · exact .inr (hp i b h1)
  · rcases k.pnew i b hb with h1 | ⟨i, h1⟩
    · exact .inl (Nat.le_trans h.size h1)
    · exact hp i b h1
theorem Tr.trans {φ φ1 φ2 : Phi} {D D1 D2 : Nat → Prop} {w w1 w2 : World} (h : Tr φ D w φ1 D1 w1) (k : Tr φ1 D1 w1 φ2 D2 w2) : Tr φ D w φ2 D2 w2 := TrW.trans h k
theorem TrW.weak {R R' : Nat → Prop} {φ φ' : Phi} {D D' : Nat → Prop} {w w' : World} (h : TrW R φ D w φ' D' w') (hr : ∀ i, R' i → R i) : TrW R' φ D w φ' D' w' :=
  ⟨fun i b h1 h2 => h.phi i b (hr i h1) h2, h.dd, h.same, h.shape, h.size, h.dnew, h.pnew⟩

theorem add_block (a : Addr) (n : Nat) : (a.add n).block = a.block := by unfold Addr.add; split <;> rfl

variable {P : Program}

theorem RV.mono0 {φ φ' : Phi} {D D' : Nat → Prop} {w w' : World} (phi : ∀ i b, φ i = some b → φ' i = some b) (dd : ∀ b, D b → D' b) (same : ∀ b : Nat, D b → w'.heap[b]? = w.heap[b]?)
    (shape : ∀ (b : Nat) (cs : Array Value) (t : TypeId), w.heap[b]? = some (Obj.cells cs t (0, 0)) → ∃ cs' : Array Value, w'.heap[b]? = some (Obj.cells cs' t (0, 0)) ∧ cs'.size = cs.size) {x : PV} {v : Value} (h : RV P φ D w x v) : RV P φ' D' w' x v := by
  have cell : ∀ {a : Addr}, D a.block → ∀ j u, w.cell? (a.add j) = some u → w'.cell? (a.add j) = some u := fun {a} hd j u hu => by
    rw [World.cell?_of_block (w := w) (by rw [add_block]; exact same _ hd)]; exact hu
  induction h with
  | b v => exact .b v
  | any v => exact .any v
  | err t p => exact .err t p
  | anyB b => exact .anyB b
  | ptr h => exact .ptr (phi _ _ h)
  | ref h hn hr => exact .ref (phi _ _ h) hn (fun ho => by
      obtain ⟨h1, cs, t, h2, h3⟩ := hr ho
      obtain ⟨cs', h4, h5⟩ := shape _ _ _ h2
      exact ⟨h1, cs', t, h4, by rw [h5]; exact h3⟩)
  | nil => exact .nil
  | ref0 h => exact .ref0 h
  | val hn hd hc h ih => exact .val hn (dd _ hd) (fun j x hx => cell hd j _ (hc j x hx)) ih
  | val0 => exact .val0
  | eptr hd hc h ih => exact .eptr (dd _ hd) (fun j x hx => cell hd j _ (hc j x hx)) ih
  | agg hl h ih => exact .agg hl ih
  | tup hl h ih => exact .tup hl ih

theorem RV.mono {φ φ' : Phi} {D D' : Nat → Prop} {w w' : World} (ht : Tr φ D w φ' D' w') {x : PV} {v : Value} (h : RV P φ D w x v) : RV P φ' D' w' x v :=
  h.mono0 (fun i b => ht.phi i b trivial) ht.dd ht.same ht.shape

/-- An own row as it lies in memory. -/
structure RowAt (P : Program) (w0 : World) (S0 : Nat → Prop) (φ : Phi) (D : Nat → Prop) (w : World) (i : Nat) (t : TypeId) (xs : List PV) (bl : Nat) (cs : Array Value) : Prop where
  phi : φ i = some bl
  heap : w.heap[bl]? = some (Obj.cells cs t (0, 0))
  len : xs.length ≤ cs.size
  cells : ∀ j x, xs[j]? = some x → RV P φ D w x (cs.getD j undef)
  own : ¬ D bl
  new : w0.heap.size ≤ bl ∨ S0 bl

structure MR (P : Program) (w0 : World) (S0 : Nat → Prop) (φ : Phi) (D : Nat → Prop) (mem : Mem) (w : World) : Prop where
  os : w.os = w0.os
  tape : w.tape = w0.tape
  output : w.output = w0.output
  size : w0.heap.size ≤ w.heap.size
  keep : ∀ b : Nat, b < w0.heap.size → ¬ S0 b → w.heap[b]? = w0.heap[b]?
  row : ∀ i t xs, mem i = .row t xs → (xs = [] ∧ φ i = none) ∨ ∃ bl cs, RowAt P w0 S0 φ D w i t xs bl cs
  inj : ∀ i j t xs t' xs' b, mem i = .row t xs → mem j = .row t' xs' → φ i = some b → φ j = some b → i = j
  dlt : ∀ b, D b → b < w.heap.size
  free : ∀ i, mem i = .free → φ i = none
  gl : GL P D w

variable {w0 w w' : World} {S0 : Nat → Prop} {φ φ' : Phi} {D D' : Nat → Prop} {mem : Mem}

theorem lt_of_heap {w : World} {b : Nat} {o : Obj} (h : w.heap[b]? = some o) : b < w.heap.size := by
  rcases Nat.lt_or_ge b w.heap.size with h' | h'
  · exact h'
  · rw [Array.getElem?_eq_none h'] at h; cases h

theorem oneCell_of_not {v : Value} (h : ∀ cs, v ≠ .agg cs) (h2 : ∀ cs, v ≠ .tuple cs) : v.oneCell' = true := by
  cases v <;> first | rfl | exact absurd rfl (h _) | exact absurd rfl (h2 _)

/-- A world that differs in what nobody here looks at. -/
theorem MR.drew (h : MR P w0 S0 φ D mem w) : MR P w0 S0 φ D mem { w with drawn := w.drawn + 1 } := by
  have ht : Tr φ D w φ D { w with drawn := w.drawn + 1 } := ⟨fun _ _ _ h => h, fun _ h => h, fun _ _ => rfl, fun _ cs _ h => ⟨cs, h, rfl⟩, Nat.le_refl _, fun _ h => .inl h, fun i _ h => .inr ⟨i, h⟩⟩
  exact ⟨h.os, h.tape, h.output, h.size, h.keep, fun i t xs hi => by
    rcases h.row i t xs hi with h0 | ⟨bl, cs, hr⟩
    · exact .inl h0
    refine .inr ?_
    exact ⟨bl, cs, hr.phi, hr.heap, hr.len, fun j x hx => (hr.cells j x hx).mono ht, hr.own, hr.new⟩, h.inj, h.dlt, h.free, h.gl.of_eq fun _ => rfl⟩
theorem Tr.drew (φ : Phi) (D : Nat → Prop) (w : World) : Tr φ D w φ D { w with drawn := w.drawn + 1 } := ⟨fun _ _ _ h => h, fun _ h => h, fun _ _ => rfl, fun _ cs _ h => ⟨cs, h, rfl⟩, Nat.le_refl _, fun _ h => .inl h, fun i _ h => .inr ⟨i, h⟩⟩

theorem heap_alloc_lt {w : World} {o : Obj} {b : Nat} {x : Obj} (h : w.heap[b]? = some x) : (w.alloc o).heap[b]? = some x := by
  rw [heap_alloc_old w o b (lt_of_heap h)]; exact h

/-- A new row. -/
theorem Tr.alloc (hm : MR P w0 S0 φ D mem w) {i : Nat} (hi : mem i = .free) (o : Obj) : Tr φ D w (setPhi φ i w.heap.size) D (w.alloc o) :=
  ⟨fun j b _ hj => by
      unfold setPhi
      split
      · rename_i e; subst e; rw [hm.free _ hi] at hj; cases hj
      · exact hj,
   fun _ h => h, fun b hb => heap_alloc_old w o b (hm.dlt b hb), fun b cs t hb => ⟨cs, heap_alloc_lt hb, rfl⟩, by simp, fun _ h => .inl h, fun j b hj => by
      unfold setPhi at hj
      split at hj
      · cases hj; exact .inl (Nat.le_refl _)
      · exact .inr ⟨j, hj⟩⟩

theorem MR.phi_lt (hm : MR P w0 S0 φ D mem w) {i : Nat} {t : TypeId} {xs : List PV} {b : Nat} (hi : mem i = .row t xs) (hb : φ i = some b) : b < w.heap.size := by
  rcases hm.row i t xs hi with h0 | ⟨bl, cs, hr⟩
  · rw [h0.2] at hb; cases hb
  rw [hr.phi] at hb
  cases hb
  exact lt_of_heap hr.heap

theorem MR.alloc (hm : MR P w0 S0 φ D mem w) {i : Nat} (hi : mem i = .free) (t : TypeId) (xs : List PV) (cs : Array Value) (hl : xs.length ≤ cs.size)
    (hx : ∀ j x, xs[j]? = some x → RV P φ D w x (cs.getD j undef)) :
    MR P w0 S0 (setPhi φ i w.heap.size) D (upd mem i (.row t xs)) (w.alloc (Obj.cells cs t)) := by
  have ht := Tr.alloc (o := Obj.cells cs t) hm hi
  refine ⟨hm.os, hm.tape, hm.output, by simp; have := hm.size; omega, fun b hb hs => by rw [heap_alloc_old w _ b (Nat.lt_of_lt_of_le hb hm.size)]; exact hm.keep b hb hs, ?_, ?_, fun b hb => by simp; have := hm.dlt b hb; omega, ?_, hm.gl.tr (fun _ h => h) ht.same⟩
  · intro j t' xs' hj
    by_cases hji : j = i
    · subst hji
      rw [upd_same] at hj
      cases hj
      refine .inr ?_
      exact ⟨w.heap.size, cs, by simp [setPhi], heap_alloc_new w _, hl, fun k x hk => (hx k x hk).mono ht, fun hd => Nat.lt_irrefl _ (hm.dlt _ hd), .inl hm.size⟩
    · rw [upd_ne _ _ hji] at hj
      rcases hm.row j t' xs' hj with h0 | ⟨bl, cs', hr⟩
      · exact .inl ⟨h0.1, by simp [setPhi, hji, h0.2]⟩
      refine .inr ?_
      exact ⟨bl, cs', ht.phi _ _ trivial hr.phi, heap_alloc_lt hr.heap, hr.len, fun k x hk => (hr.cells k x hk).mono ht, hr.own, hr.new⟩
  · intro j k t1 xs1 t2 xs2 b hj hk hbj hbk
    by_cases hji : j = i <;> by_cases hki : k = i
    · rw [hji, hki]
    · subst hji
      rw [upd_ne _ _ hki] at hk
      simp [setPhi] at hbj
      simp [setPhi, hki] at hbk
      have := hm.phi_lt hk hbk
      omega
    · subst hki
      rw [upd_ne _ _ hji] at hj
      simp [setPhi] at hbk
      simp [setPhi, hji] at hbj
      have := hm.phi_lt hj hbj
      omega
    · rw [upd_ne _ _ hji] at hj
      rw [upd_ne _ _ hki] at hk
      simp [setPhi, hji] at hbj
      simp [setPhi, hki] at hbk
      exact hm.inj j k _ _ _ _ b hj hk hbj hbk
  · intro j hj
    by_cases hji : j = i
    · subst hji; rw [upd_same] at hj; cases hj
    · rw [upd_ne _ _ hji] at hj
      simp [setPhi, hji, hm.free j hj]

/-- A row of cells changes in place (its shape stays); its new cells are told by ys. -/
theorem Tr.write (hm : MR P w0 S0 φ D mem w) {i : Nat} {t : TypeId} {xs : List PV} {bl : Nat} {cs cs' : Array Value} (hr : RowAt P w0 S0 φ D w i t xs bl cs) (hs : cs'.size = cs.size)
    (hb : w'.heap[bl]? = some (Obj.cells cs' t (0, 0))) (ho : ∀ k, k ≠ bl → w'.heap[k]? = w.heap[k]?) (hsz : w'.heap.size = w.heap.size) : Tr φ D w φ D w' :=
  ⟨fun _ _ _ h => h, fun _ h => h, fun b hd => ho b (fun e => hr.own (e ▸ hd)), fun b c t' hc => by
    by_cases e : b = bl
    · subst e; rw [hr.heap] at hc; cases hc; exact ⟨cs', hb, hs⟩
    · exact ⟨c, by rw [ho b e]; exact hc, rfl⟩, by rw [hsz]; exact Nat.le_refl _, fun _ h => .inl h, fun i _ h => .inr ⟨i, h⟩⟩

theorem MR.write (hm : MR P w0 S0 φ D mem w) {i : Nat} {t : TypeId} {xs ys : List PV} {bl : Nat} {cs cs' : Array Value} (hi : mem i = .row t xs) (hr : RowAt P w0 S0 φ D w i t xs bl cs) (hs : cs'.size = cs.size)
    (hos : w'.os = w.os) (hta : w'.tape = w.tape) (hou : w'.output = w.output) (hsz : w'.heap.size = w.heap.size)
    (hb : w'.heap[bl]? = some (Obj.cells cs' t (0, 0))) (ho : ∀ k, k ≠ bl → w'.heap[k]? = w.heap[k]?) (hl : ys.length ≤ cs'.size)
    (hy : ∀ j y, ys[j]? = some y → RV P φ D w y (cs'.getD j undef)) : MR P w0 S0 φ D (upd mem i (.row t ys)) w' := by
  have ht := Tr.write hm hr hs hb ho hsz
  refine ⟨hos.trans hm.os, hta.trans hm.tape, hou.trans hm.output, by rw [hsz]; exact hm.size, fun b hlt hS => ?_, ?_, ?_, fun b hd => by rw [hsz]; exact hm.dlt b hd, ?_, hm.gl.tr (fun _ h => h) ht.same⟩
  · rw [ho b (fun e => ?_)]
    · exact hm.keep b hlt hS
    · subst e
      rcases hr.new with h | h
      · omega
      · exact hS h
  · intro j t' xs' hj
    by_cases hji : j = i
    · subst hji
      rw [upd_same] at hj
      cases hj
      refine .inr ?_
      exact ⟨bl, cs', hr.phi, hb, hl, fun k x hk => (hy k x hk).mono ht, hr.own, hr.new⟩
    · rw [upd_ne _ _ hji] at hj
      rcases hm.row j t' xs' hj with h0 | ⟨b2, c2, h2⟩
      · exact .inl h0
      refine .inr ?_
      have hne : b2 ≠ bl := fun e => hji (hm.inj j i _ _ _ _ bl hj hi (e ▸ h2.phi) hr.phi)
      exact ⟨b2, c2, h2.phi, by rw [ho b2 hne]; exact h2.heap, h2.len, fun k x hk => (h2.cells k x hk).mono ht, h2.own, h2.new⟩
  · intro j k t1 xs1 t2 xs2 b hj hk hbj hbk
    have row : ∀ j t1 xs1, upd mem i (.row t ys) j = .row t1 xs1 → ∃ t xs, mem j = .row t xs := fun j t1 xs1 hj => by
      by_cases hji : j = i
      · subst hji; exact ⟨_, _, hi⟩
      · rw [upd_ne _ _ hji] at hj; exact ⟨_, _, hj⟩
    obtain ⟨_, _, h1⟩ := row j _ _ hj
    obtain ⟨_, _, h2⟩ := row k _ _ hk
    exact hm.inj j k _ _ _ _ b h1 h2 hbj hbk
  · intro j hj
    by_cases hji : j = i
    · subst hji; rw [upd_same] at hj; cases hj
    · rw [upd_ne _ _ hji] at hj; exact hm.free j hj

/-- A row is no longer spoken of. -/
theorem MR.kill (hm : MR P w0 S0 φ D mem w) {i : Nat} {t : TypeId} {xs : List PV} (hi : mem i = .row t xs) : MR P w0 S0 φ D (upd mem i .dead) w := by
  have row : ∀ j t1 xs1, upd mem i .dead j = .row t1 xs1 → mem j = .row t1 xs1 := fun j t1 xs1 hj => by
    by_cases hji : j = i
    · subst hji; rw [upd_same] at hj; cases hj
    · rwa [upd_ne _ _ hji] at hj
  refine ⟨hm.os, hm.tape, hm.output, hm.size, hm.keep, fun j t' xs' hj => hm.row j t' xs' (row j _ _ hj), fun j k t1 xs1 t2 xs2 b hj hk => hm.inj j k _ _ _ _ b (row _ _ _ hj) (row _ _ _ hk), hm.dlt, fun j hj => ?_, hm.gl⟩
  by_cases hji : j = i
  · subst hji; rw [upd_same] at hj; cases hj
  · rw [upd_ne _ _ hji] at hj; exact hm.free j hj

/-- A row that has cells lies in memory. -/
theorem MR.rowAt (hm : MR P w0 S0 φ D mem w) {i : Nat} {t : TypeId} {xs : List PV} (hi : mem i = .row t xs) {b : Nat} (hb : φ i = some b) : ∃ cs, RowAt P w0 S0 φ D w i t xs b cs := by
  rcases hm.row i t xs hi with h0 | ⟨bl, cs, hr⟩
  · rw [h0.2] at hb; cases hb
  · rw [hr.phi] at hb
    cases hb
    exact ⟨cs, hr⟩

theorem add_add (a : Addr) (m n : Nat) : (a.add m).add n = a.add (m + n) := by
  unfold Addr.add
  by_cases h1 : m = 0 <;> by_cases h2 : n = 0 <;> simp_all [Nat.add_assoc]
end Go.Pv

/- The engine of this session, part 2: what an operation does to abstract values and memory, and that it does so. -/
set_option linter.unusedVariables false
set_option linter.unusedSimpArgs false
namespace Go.Pv
open Go.RowKit

structure St where
  tmps : List PV
  mem : Mem

def St.eval (s : St) : Operand → PV
  | .tmp t => s.tmps.getD t (.b undef)
  | .const v => .b v
  | .global g => .b (.pointer (some ⟨g, 0, none⟩))
  | .func f => .b (.func (.func f) #[] #[])

variable {P : Program} {w0 w w' : World} {S0 : Nat → Prop} {φ φ' : Phi} {D D' : Nat → Prop} {mem : Mem} {st : St} {a : Act} {o : Oper} {next : Act → World → Prop} {Q : Exit → Act → World → Prop}

/-- Values one by one. -/
def RVs (P : Program) (φ : Phi) (D : Nat → Prop) (w : World) (xs : List PV) (vs : Array Value) : Prop := vs.size = xs.length ∧ ∀ j x, xs[j]? = some x → RV P φ D w x (vs.getD j undef)
theorem RVs.mono {xs : List PV} {vs : Array Value} (ht : Tr φ D w φ' D' w') (h : RVs P φ D w xs vs) : RVs P φ' D' w' xs vs := ⟨h.1, fun j x hx => (h.2 j x hx).mono ht⟩
theorem RVs.eval (h : RVs P φ D w st.tmps a.tmps) (x : Operand) : RV P φ D w (st.eval x) (a.eval x) := by
  cases x with
  | tmp t =>
    simp only [St.eval, Act.eval]
    cases hx : st.tmps[t]? with
    | none =>
      have h1 : a.tmps[t]? = none := by rw [Array.getElem?_eq_none]; rw [h.1]; exact List.getElem?_eq_none_iff.1 hx
      simp [hx, h1]
      exact .b _
    | some y =>
      simp [hx]
      simpa using h.2 t y hx
  | _ => exact .b _

def put (s : St) (dst : Option Tmp) (x : PV) (m : Mem) : St := ⟨match dst with | some d => s.tmps.set d x | none => s.tmps, m⟩
theorem RVs.put {dst : Option Tmp} {x : PV} {v : Value} {m : Mem} (h : RVs P φ D w st.tmps a.tmps) (hx : RV P φ D w x v) : RVs P φ D w (put st dst x m).tmps (a.put dst v).tmps := by
  cases dst with
  | none => exact h
  | some d =>
    refine ⟨by simp [Pv.put, Act.put, h.1], fun j y hy => ?_⟩
    simp only [Pv.put, Act.put] at hy ⊢
    rw [List.getElem?_set] at hy
    by_cases hd : d = j
    · subst hd
      simp at hy
      obtain ⟨hlt, rfl⟩ := hy
      have : d < a.tmps.size := by rw [h.1]; exact hlt
      simpa [this] using hx
    · simp [hd] at hy
      have := h.2 j y hy
      simpa [Array.getElem?_setIfInBounds_ne hd] using this

theorem wp_value {v : Value} {w' : World} (hr : (execOp a.eval o).run P w = .ok (.value v) w') (h : next (a.put o.dst v) w') : o.wp P a w next Q := by unfold Oper.wp; rw [hr]; exact h
theorem wp_skip {w' : World} (hr : (execOp a.eval o).run P w = .ok .skip w') (h : next (a.put o.dst undef) w') : o.wp P a w next Q := by unfold Oper.wp; rw [hr]; exact h

/-- What is asked of types. -/
structure TI where
  agg : Bool
  size : Nat
  bytes : Nat
  zero : Option (List Value)
def isAggD : TypeDesc → Bool
  | .struct _ | .array _ _ => true
  | _ => false
def tinfo (P : Program) (t : TypeId) : Option TI := (P.info? t).bind fun i => (P.underlying t).map fun d => ⟨isAggD d, i.size, i.bytes, i.zero.map (·.cells.toList)⟩
theorem tinfo_some {t : TypeId} {T : TI} (h : tinfo P t = some T) : ∃ i d, P.info? t = some i ∧ P.underlying t = some d ∧ T.agg = isAggD d ∧ T.size = i.size ∧ T.bytes = i.bytes ∧ T.zero = i.zero.map (·.cells.toList) := by
  unfold tinfo at h
  cases hi : P.info? t with
  | none => simp [hi] at h
  | some i =>
    cases hd : P.underlying t with
    | none => simp [hi, hd] at h
    | some d => simp [hi, hd] at h; subst h; exact ⟨i, d, rfl, rfl, rfl, rfl, rfl, rfl⟩
theorem run_isAgg {t : TypeId} {T : TI} (h : tinfo P t = some T) (w : World) : (isAgg t).run P w = .ok T.agg w := by
  obtain ⟨i, d, _, hd, ha, _⟩ := tinfo_some h
  unfold isAgg
  rw [Sem.run_bind, run_underlying hd w, ha]
  cases d <;> rfl
theorem run_sizeOf {t : TypeId} {T : TI} (h : tinfo P t = some T) (w : World) : (sizeOf t).run P w = .ok T.size w := by
  obtain ⟨i, d, hi, _, _, hs, _⟩ := tinfo_some h
  simp [sizeOf, typeInfo, hi, hs]
theorem cellsOf_eq {t : TypeId} {T : TI} (h : tinfo P t = some T) : P.cellsOf t = T.size := by
  obtain ⟨i, d, hi, _, _, hs, _⟩ := tinfo_some h
  simp [Program.cellsOf, hi, hs]

def cellsOf : PV → Option (List PV)
  | .agg xs => some xs
  | .b v => some (v.cells.toList.map .b)
  | .tup _ | .any => none
  | x => some [x]
theorem cellsOf_spec {x : PV} {v : Value} {ys : List PV} (h : RV P φ D w x v) (hy : cellsOf x = some ys) : v.cells.size = ys.length ∧ ∀ j y, ys[j]? = some y → RV P φ D w y (v.cells.getD j undef) := by
  have one : ∀ {x : PV} {v : Value}, RV P φ D w x v → v.cells = #[v] → v.cells.size = [x].length ∧ ∀ j y, [x][j]? = some y → RV P φ D w y (v.cells.getD j undef) := fun {x v} h hc => by
    rw [hc]
    refine ⟨rfl, fun j y hy => ?_⟩
    cases j with
    | zero => simp at hy; subst hy; exact h
    | succ j => simp at hy
  cases h with
  | b v =>
    simp only [cellsOf, Option.some.injEq] at hy
    subst hy
    refine ⟨by simp, fun j y hy => ?_⟩
    simp at hy
    obtain ⟨u, hu, rfl⟩ := hy
    simp [hu]
    exact .b _
  | any v => cases hy
  | err t p => simp only [cellsOf, Option.some.injEq] at hy; subst hy; exact one (.err t p) rfl
  | anyB b => simp only [cellsOf, Option.some.injEq] at hy; subst hy; exact one (.anyB b) rfl
  | tup => cases hy
  | agg hl h => simp only [cellsOf, Option.some.injEq] at hy; subst hy; exact ⟨hl, h⟩
  | ptr h => simp only [cellsOf, Option.some.injEq] at hy; subst hy; exact one (.ptr h) rfl
  | ref h hn hr => simp only [cellsOf, Option.some.injEq] at hy; subst hy; exact one (.ref h hn hr) rfl
  | nil => simp only [cellsOf, Option.some.injEq] at hy; subst hy; exact one .nil rfl
  | ref0 h => simp only [cellsOf, Option.some.injEq] at hy; subst hy; exact one (.ref0 h) rfl
  | val hn hd hc h => simp only [cellsOf, Option.some.injEq] at hy; subst hy; exact one (.val hn hd hc h) rfl
  | val0 => simp only [cellsOf, Option.some.injEq] at hy; subst hy; exact one .val0 rfl
  | eptr hd hc h => simp only [cellsOf, Option.some.injEq] at hy; subst hy; exact one (.eptr hd hc h) rfl

def storable : PV → Bool
  | .b v => v.oneCell'
  | .any | .agg _ | .tup _ => false
  | _ => true
theorem storable_spec {x : PV} {v : Value} (h : RV P φ D w x v) (hs : storable x = true) : v.oneCell' = true := by
  cases h <;> first | exact hs | rfl | cases hs

/-- Cells written one behind the other. -/
def storeL : List PV → Nat → List PV → List PV
  | xs, _, [] => xs
  | xs, o, y :: ys => storeL (xs.set o y) (o + 1) ys

/-- How an abstract call goes: in whatever world that fits, it returns, and the world then fits what is told. -/
def CallM (P : Program) (f : FuncId) (args : List PV) (mem : Mem) (K : PV → Mem → Prop) : Prop :=
  ∀ (w0 : World) (S0 : Nat → Prop) (φ : Phi) (D : Nat → Prop) (w : World) (vs : Array Value), MR P w0 S0 φ D mem w → RVs P φ D w args vs →
    Calls P f vs w (fun e w' => ∃ (v : Value) (x : PV) (mem' : Mem) (φ' : Phi) (D' : Nat → Prop), e = .returned v ∧ K x mem' ∧ Tr φ D w φ' D' w' ∧ MR P w0 S0 φ' D' mem' w' ∧ RV P φ' D' w' x v)

theorem addr_add (g o n : Nat) : (⟨g, o, none⟩ : Addr).add n = ⟨g, o + n, none⟩ := by unfold Addr.add; split <;> simp_all

theorem cell_at {w : World} {g o j : Nat} {cs : Array Value} {t : TypeId} {fr : Nat × Nat} (hg : w.heap[g]? = some (Obj.cells cs t fr)) : w.cell? ((⟨g, o, none⟩ : Addr).add j) = cs[o + j]? := by
  rw [addr_add, cell_of_row w g _ cs t fr hg]

/-- Cells that are there are loaded. -/
theorem run_loadVar_at {t : TypeId} {T : TI} (hT : tinfo P t = some T) (ad : Addr) (f : Nat → Value) (h : ∀ j, j < T.size → w.cell? (ad.add j) = some (f j)) (h1 : T.agg = false → T.size = 1) :
    (loadVar t ad).run P w = .ok (if T.agg then .agg ((List.range T.size).map f).toArray else f 0) w := by
  unfold loadVar
  rw [Sem.run_bind, run_isAgg hT]
  cases ha : T.agg with
  | true =>
    have hl := run_loadCells (P := P) w ad T.size f h
    simp [run_sizeOf hT, hl]
  | false =>
    have h0 := h 0 (by rw [h1 ha]; exact Nat.one_pos)
    have h0' : w.cell? ad = some (f 0) := by simpa [Addr.add] using h0
    simp [h0']

def loadPV (T : TI) (xs : List PV) (K : PV → Prop) : Prop :=
  if T.agg then T.size ≤ xs.length ∧ K (.agg (xs.take T.size)) else T.size = 1 ∧ match xs with | x :: _ => K x | [] => False

/-- A load of cells that stand at an address. -/
theorem load_spec {t : TypeId} {T : TI} (hT : tinfo P t = some T) {ad : Addr} {f : Nat → Value} {xs : List PV} (hc : ∀ j x, xs[j]? = some x → w.cell? (ad.add j) = some (f j))
    (hx : ∀ j x, xs[j]? = some x → RV P φ D w x (f j)) {K : PV → Prop} (h : loadPV T xs K) : ∃ v x, (loadVar t ad).run P w = .ok v w ∧ RV P φ D w x v ∧ K x := by
  unfold loadPV at h
  cases ha : T.agg with
  | true =>
    rw [ha] at h
    simp only [if_true] at h
    have hr := run_loadVar_at (w := w) hT ad f (fun j hj => hc j _ (List.getElem?_eq_getElem (by omega))) (by simp [ha])
    rw [ha] at hr
    refine ⟨_, _, hr, ?_, h.2⟩
    simp only [if_true]
    refine .agg (by simp; omega) (fun j x hj => ?_)
    rw [List.getElem?_take] at hj
    split at hj
    · rename_i hlt
      have := hx j x hj
      simpa [hlt] using this
    · cases hj
  | false =>
    rw [ha] at h
    simp only [Bool.false_eq_true, if_false] at h
    obtain ⟨h1, h2⟩ := h
    cases xs with
    | nil => exact h2.elim
    | cons x xs =>
      have hr := run_loadVar_at (w := w) hT ad f (fun j hj => hc j x (by have : j = 0 := (by omega); subst this; rfl)) (fun _ => h1)
      rw [ha] at hr
      exact ⟨_, _, hr, by simpa using hx 0 x rfl, h2⟩

/-- Cells that are stored one behind the other into a row. -/
theorem run_storeCells_row (P : Program) (g : Nat) (t : TypeId) : ∀ (vs : List Value) (o i : Nat) (cs : Array Value) (w : World), w.heap[g]? = some (Obj.cells cs t (0, 0)) → o + i + vs.length ≤ cs.size → (∀ v ∈ vs, v.oneCell' = true) →
    ∃ w' cs', (storeCells ⟨g, o, none⟩ vs i).run P w = .ok () w' ∧ w'.heap[g]? = some (Obj.cells cs' t (0, 0)) ∧ cs'.size = cs.size ∧ (∀ k, k ≠ g → w'.heap[k]? = w.heap[k]?) ∧ w'.os = w.os ∧ w'.tape = w.tape ∧ w'.output = w.output ∧ w'.heap.size = w.heap.size ∧
      (∀ j, cs'.getD j undef = if o + i ≤ j ∧ j < o + i + vs.length then vs.getD (j - (o + i)) undef else cs.getD j undef)
  | [], o, i, cs, w, hg, hl, h1 => ⟨w, cs, by simp [storeCells], hg, rfl, fun _ _ => rfl, rfl, rfl, rfl, rfl, fun j => by
      have : ¬ (o + i ≤ j ∧ j < o + i + ([] : List Value).length) := by simp
      rw [if_neg this]⟩
  | v :: vs, o, i, cs, w, hg, hl, h1 => by
    simp only [List.length_cons] at hl
    have hc : w.cell? ((⟨g, o, none⟩ : Addr).add i) = some (cs.getD (o + i) undef) := by
      rw [cell_at hg]
      have : o + i < cs.size := by omega
      simp [this]
    have hfz : w.frozen? ((⟨g, o, none⟩ : Addr).add i) = false := by rw [addr_add]; exact frozen_of_row w g _ cs t hg
    have hst : (store ((⟨g, o, none⟩ : Addr).add i) v).run P w = .ok () (w.setCell ((⟨g, o, none⟩ : Addr).add i) v) := by
      rw [run_store P w _ v _ (h1 v (List.mem_cons_self ..)), hc]
      simp [hfz]
    have hg2 : (w.setCell ((⟨g, o, none⟩ : Addr).add i) v).heap[g]? = some (Obj.cells (cs.setIfInBounds (o + i) v) t (0, 0)) := by
      rw [addr_add]; exact heap_setCell_same w g (o + i) cs t v hg
    obtain ⟨w', cs', h2, h3, h4, h5, h6, h7, h8, h9, h10⟩ := run_storeCells_row P g t vs o (i + 1) (cs.setIfInBounds (o + i) v) _ hg2 (by simp; omega) (fun u hu => h1 u (List.mem_cons_of_mem _ hu))
    refine ⟨w', cs', ?_, h3, by rw [h4]; simp, fun k hk => ?_, h6, h7, h8, by rw [h9]; exact World.size_setCell .., fun j => ?_⟩
    · simp only [storeCells, Sem.run_bind, hst, Result.andThen_ok, h2]
    · rw [h5 k hk]; exact heap_setCell_other w _ k v (by rw [addr_add]; exact hk)
    · rw [h10 j]
      have e : ∀ q, (cs.setIfInBounds (o + i) v).getD q undef = if q = o + i then v else cs.getD q undef := fun q => by
        by_cases hq : q = o + i
        · subst hq
          have : o + i < cs.size := by omega
          simp [this]
        · simp [Array.getElem?_setIfInBounds_ne (Ne.symm hq), hq]
      rw [e]
      simp only [List.length_cons]
      by_cases h1 : j = o + i
      · subst h1
        have n1 : ¬ (o + (i + 1) ≤ o + i ∧ o + i < o + (i + 1) + vs.length) := by omega
        rw [if_neg n1, if_pos rfl, if_pos (by omega)]
        simp
      · rw [if_neg h1]
        by_cases h2 : o + (i + 1) ≤ j ∧ j < o + (i + 1) + vs.length
        · rw [if_pos h2, if_pos (by omega)]
          have : j - (o + i) = (j - (o + (i + 1))) + 1 := by omega
          rw [this]
          simp
        · rw [if_neg h2, if_neg (by omega)]

theorem storeL_length : ∀ (ys xs : List PV) (o : Nat), (storeL xs o ys).length = xs.length
  | [], _, _ => rfl
  | y :: ys, xs, o => by simp [storeL, storeL_length ys]
theorem storeL_get : ∀ (ys xs : List PV) (o j : Nat), o + ys.length ≤ xs.length → (storeL xs o ys)[j]? = if o ≤ j ∧ j < o + ys.length then ys[j - o]? else xs[j]?
  | [], xs, o, j, h => by
    have : ¬ (o ≤ j ∧ j < o + ([] : List PV).length) := by simp
    rw [if_neg this]; rfl
  | y :: ys, xs, o, j, h => by
    simp only [List.length_cons] at h
    simp only [storeL, List.length_cons]
    rw [storeL_get ys (xs.set o y) (o + 1) j (by simp; omega), List.getElem?_set]
    by_cases h1 : o = j
    · subst h1
      rw [if_neg (by omega), if_pos rfl, if_pos (by omega), if_pos (by omega)]
      simp
    · rw [if_neg h1]
      by_cases h2 : o + 1 ≤ j ∧ j < o + 1 + ys.length
      · rw [if_pos h2, if_pos (by omega)]
        have : j - o = (j - (o + 1)) + 1 := by omega
        rw [this]
        simp
      · rw [if_neg h2, if_neg (by omega)]

end Go.Pv

/- The engine of this session, part 3: the operations. -/
set_option linter.unusedVariables false
set_option linter.unusedSimpArgs false
namespace Go.Pv
open Go.RowKit
variable {P : Program} {w0 w w' : World} {S0 : Nat → Prop} {φ φ' : Phi} {D D' : Nat → Prop} {mem : Mem} {st : St} {a : Act} {o : Oper} {next : Act → World → Prop} {Q : Exit → Act → World → Prop} {K : PV → Mem → Prop}

abbrev Nx (P : Program) (w0 : World) (S0 : Nat → Prop) (φ : Phi) (D : Nat → Prop) (w : World) (K : PV → Mem → Prop) (R : Value → World → Prop) : Prop :=
  ∀ x mem' φ' D' w' v, K x mem' → Tr φ D w φ' D' w' → MR P w0 S0 φ' D' mem' w' → RV P φ' D' w' x v → R v w'

/-- The offset of a struct's field that has cells. -/
def foff (P : Program) (s : TypeId) (f : Nat) : Option Nat :=
  match P.underlying s with
  | some (.struct fs) => (fs[f]?).bind fun fd => (P.info? fd.type).bind fun i => if i.size = 0 then none else some fd.offset
  | _ => none
theorem foff_some {s : TypeId} {f off : Nat} (h : foff P s f = some off) : ∃ fs fd i, P.underlying s = some (.struct fs) ∧ fs[f]? = some fd ∧ P.info? fd.type = some i ∧ i.size ≠ 0 ∧ fd.offset = off := by
  unfold foff at h
  split at h
  · rename_i fs hu
    cases hf : fs[f]? with
    | none => simp [hf] at h
    | some fd =>
      cases hi : P.info? fd.type with
      | none => simp [hf, hi] at h
      | some i =>
        simp [hf, hi] at h
        exact ⟨fs, fd, i, hu, hf, hi, h.1, h.2⟩
  · cases h
/-- A slice type's element. -/
def selem (P : Program) (t : TypeId) : Option (TypeId × TI) :=
  match P.underlying t with
  | some (.slice e) => (tinfo P e).map (e, ·)
  | _ => none
theorem selem_some {t e : TypeId} {T : TI} (h : selem P t = some (e, T)) : P.underlying t = some (.slice e) ∧ tinfo P e = some T := by
  unfold selem at h
  split at h
  · rename_i e' hu
    cases ht : tinfo P e' with
    | none => simp [ht] at h
    | some T' => simp [ht] at h; obtain ⟨rfl, rfl⟩ := h; exact ⟨hu, ht⟩
  · cases h

def aLoad (P : Program) (t : TypeId) (p : PV) (mem : Mem) (K : PV → Prop) : Prop :=
  match tinfo P t with
  | none => False
  | some T => match p with
    | .ptr i o => (match mem i with | .row _ xs => o < xs.length ∧ loadPV T (xs.drop o) K | _ => False)
    | .eptr xs => loadPV T xs K
    | _ => False
theorem load_sound {t : TypeId} {p : PV} {v : Value} (hm : MR P w0 S0 φ D mem w) (hp : RV P φ D w p v) {K : PV → Prop} (h : aLoad P t p mem K) :
    ∃ u x, (Instr.loadAt t v).run P w = .ok u w ∧ RV P φ D w x u ∧ K x := by
  unfold aLoad at h
  split at h
  · exact h.elim
  · rename_i T hT
    split at h
    · rename_i i off
      split at h
      · rename_i t' xs hi
        obtain ⟨hlt, h⟩ := h
        cases hp with
        | ptr hb =>
          obtain ⟨cs, hr⟩ := hm.rowAt hi hb
          obtain ⟨u, x, h1, h2, h3⟩ := load_spec (w := w) hT (ad := ⟨_, off, none⟩) (f := fun j => cs.getD (off + j) undef) (xs := xs.drop off)
            (fun j x hx => by
              rw [cell_at hr.heap]
              rw [List.getElem?_drop] at hx
              have : off + j < cs.size := Nat.lt_of_lt_of_le (List.getElem?_eq_some_iff.1 hx).1 hr.len
              simp [this])
            (fun j x hx => by rw [List.getElem?_drop] at hx; exact hr.cells _ _ hx) h
          exact ⟨u, x, by simp [Instr.loadAt, Instr.sureAddr, h1], h2, h3⟩
      · exact h.elim
    · cases hp with
      | eptr hd hc hx =>
        obtain ⟨u, x, h1, h2, h3⟩ := load_spec (w := w) hT hc hx h
        exact ⟨u, x, by simp [Instr.loadAt, Instr.sureAddr, h1], h2, h3⟩
    · exact h.elim

def aStore (P : Program) (t : TypeId) (p x : PV) (mem : Mem) (K : Mem → Prop) : Prop :=
  match tinfo P t, p, cellsOf x with
  | some T, .ptr i o, some ys => (match mem i with
    | .row t' xs => o < xs.length ∧ ys.length = T.size ∧ o + ys.length ≤ xs.length ∧ ys.all storable = true ∧ K (upd mem i (.row t' (storeL xs o ys)))
    | _ => False)
  | _, _, _ => False
theorem store_sound {t : TypeId} {p x : PV} {v u : Value} (hm : MR P w0 S0 φ D mem w) (hp : RV P φ D w p v) (hx : RV P φ D w x u) {K : Mem → Prop} (h : aStore P t p x mem K) :
    ∃ w' mem', (Instr.storeAt t v u).run P w = .ok () w' ∧ K mem' ∧ Tr φ D w φ D w' ∧ MR P w0 S0 φ D mem' w' := by
  unfold aStore at h
  split at h
  · rename_i T i off ys hT hy
    split at h
    · rename_i t' xs hi
      obtain ⟨hlt, hys, hfit, hst, hK⟩ := h
      cases hp with
      | @ptr _ _ bl hb =>
        obtain ⟨cs, hr⟩ := hm.rowAt hi hb
        obtain ⟨hsz, hcells⟩ := cellsOf_spec hx hy
        have h1 : ∀ c ∈ u.cells.toList, c.oneCell' = true := fun c hc => by
          obtain ⟨j, hj⟩ := List.mem_iff_getElem?.1 hc
          have hj' : u.cells[j]? = some c := by simpa using hj
          have hjl : j < ys.length := by
            have := (Array.getElem?_eq_some_iff.1 hj').1
            omega
          have := hcells j _ (List.getElem?_eq_getElem hjl)
          rw [Array.getD_eq_getD_getElem?, hj'] at this
          exact storable_spec this (List.all_eq_true.1 hst _ (List.getElem_mem hjl))
        obtain ⟨w', cs', h2, h3, h4, h5, h6, h7, h8, h9, h10⟩ := run_storeCells_row P _ t' u.cells.toList off 0 cs w hr.heap (by have := hr.len; simp; omega) h1
        have hrun : (Instr.storeAt t (.pointer (some ⟨bl, off, none⟩)) u).run P w = .ok () w' := by
          simp only [Instr.storeAt, Instr.sureAddr, Sem.run_bind, Sem.run_pure, Result.andThen_ok, storeVar, run_sizeOf hT]
          rw [if_neg (by omega)]
          simpa using h2
        refine ⟨w', _, hrun, hK, Tr.write hm hr h4 h3 h5 h9, MR.write hm hi hr h4 h6 h7 h8 h9 h3 h5 (by rw [storeL_length, h4]; exact hr.len) (fun j y hj => ?_)⟩
        rw [storeL_get ys xs off j hfit] at hj
        rw [h10 j]
        simp only [Nat.add_zero, Array.length_toList, hsz]
        split
        · rename_i hin
          rw [if_pos hin] at hj
          have := hcells _ _ hj
          rw [Array.getD_eq_getD_getElem?] at this
          simpa using this
        · rename_i hin
          rw [if_neg hin] at hj
          exact hr.cells j y hj
    · exact h.elim
  · exact h.elim

def aField (P : Program) (s : TypeId) (p : PV) (f : Nat) (K : PV → Prop) : Prop :=
  match foff P s f, p with
  | some off, .ptr i o => K (.ptr i (o + off))
  | some off, .eptr xs => K (.eptr (xs.drop off))
  | _, _ => False
theorem field_sound {s : TypeId} {p : PV} {f : Nat} {v : Value} (hp : RV P φ D w p v) {K : PV → Prop} (h : aField P s p f K) : ∃ u x, (Instr.fieldAt s v f).run P w = .ok u w ∧ RV P φ D w x u ∧ K x := by
  unfold aField at h
  split at h
  · rename_i off i o' hf
    obtain ⟨fs, fd, inf, hu, hfd, hi, hs, rfl⟩ := foff_some hf
    cases hp with
    | ptr hb =>
      refine ⟨.pointer (some ⟨_, o' + fd.offset, none⟩), _, ?_, .ptr hb, h⟩
      simp [Instr.fieldAt, run_underlying hu, hfd, Instr.sureAddr, fieldPlace, sizeOf, typeInfo, hi, hs, addr_add]
  · rename_i off xs hf
    obtain ⟨fs, fd, inf, hu, hfd, hi, hs, rfl⟩ := foff_some hf
    cases hp with
    | @eptr _ ad f' hd hc hx =>
      refine ⟨.pointer (some (ad.add fd.offset)), _, ?_, .eptr (f := fun j => f' (fd.offset + j)) (by rw [add_block]; exact hd) (fun j x hj => ?_) (fun j x hj => ?_), h⟩
      · simp [Instr.fieldAt, run_underlying hu, hfd, Instr.sureAddr, fieldPlace, sizeOf, typeInfo, hi, hs]
      · rw [List.getElem?_drop] at hj; rw [add_add]; exact hc _ _ hj
      · rw [List.getElem?_drop] at hj; exact hx _ _ hj
  · exact h.elim

def aIndex (P : Program) (t : TypeId) (x ix : PV) (K : PV → Prop) : Prop :=
  match selem P t, ix with
  | some (e, T), .b (.int k n) => (match x with
    | .ref i o m => 0 ≤ n ∧ n < m ∧ K (.ptr i (o + n.toNat * T.size))
    | .val m xs => 0 ≤ n ∧ n < m ∧ K (.eptr (xs.drop (n.toNat * T.size)))
    | _ => False)
  | _, _ => False
theorem index_sound {t : TypeId} {x ix : PV} {v u : Value} (hx : RV P φ D w x v) (hi : RV P φ D w ix u) {K : PV → Prop} (h : aIndex P t x ix K) : ∃ r y, (Instr.indexAt t v u).run P w = .ok r w ∧ RV P φ D w y r ∧ K y := by
  unfold aIndex at h
  split at h
  · rename_i e T k n hs
    obtain ⟨hu, hT⟩ := selem_some hs
    cases hi
    split at h
    · rename_i i o' m
      obtain ⟨h0, h1, hK⟩ := h
      cases hx with
      | ref hb hn hr =>
        refine ⟨.pointer (some ⟨_, o' + n.toNat * T.size, none⟩), _, ?_, .ptr hb, hK⟩
        simp [Instr.indexAt, asIntOf, run_underlying hu, h0, h1, run_sizeOf hT, addr_add]
      | nil => omega
      | ref0 => omega
    · rename_i m xs
      obtain ⟨h0, h1, hK⟩ := h
      cases hx with
      | @val _ c _ ad f hn hd hc hx =>
        refine ⟨.pointer (some (ad.add (n.toNat * T.size))), _, ?_, .eptr (f := fun j => f (n.toNat * T.size + j)) (by rw [add_block]; exact hd) (fun j x hj => ?_) (fun j x hj => ?_), hK⟩
        · simp [Instr.indexAt, asIntOf, run_underlying hu, h0, h1, run_sizeOf hT]
        · rw [List.getElem?_drop] at hj; rw [add_add]; exact hc _ _ hj
        · rw [List.getElem?_drop] at hj; exact hx _ _ hj
      | val0 => omega
    · exact h.elim
  · exact h.elim

/-- A new row. -/
theorem new_sound (hm : MR P w0 S0 φ D mem w) {i : Nat} (hi : mem i = .free) {e : TypeId} {ys : List PV} {cs : Array Value} (hc : RVs P φ D w ys cs) :
    Tr φ D w (setPhi φ i w.heap.size) D (w.alloc (Obj.cells cs e)) ∧ MR P w0 S0 (setPhi φ i w.heap.size) D (upd mem i (.row e ys)) (w.alloc (Obj.cells cs e)) ∧ setPhi φ i w.heap.size i = some w.heap.size :=
  ⟨Tr.alloc hm hi _, MR.alloc hm hi e ys cs (by rw [hc.1]; exact Nat.le_refl _) hc.2, by simp [setPhi]⟩

theorem RVs_b (P : Program) (φ : Phi) (D : Nat → Prop) (w : World) (vs : Array Value) : RVs P φ D w (vs.toList.map .b) vs := by
  refine ⟨by simp, fun j x hj => ?_⟩
  simp at hj
  obtain ⟨u, hu, rfl⟩ := hj
  simp [hu]
  exact .b _

/-- Values that are as they are, and structs of such. -/
def unb0 : PV → Value
  | .b v => v
  | _ => undef
def isB0 : PV → Bool
  | .b _ => true
  | _ => false
def unb : PV → Value
  | .b v => v
  | .agg xs => .agg (xs.map unb0).toArray
  | _ => undef
def isB : PV → Bool
  | .b _ => true
  | .agg xs => xs.all isB0
  | _ => false
theorem isB0_spec {x : PV} {v : Value} (h : RV P φ D w x v) (hb : isB0 x = true) : v = unb0 x := by
  cases h <;> first | rfl | cases hb
theorem isB_spec {x : PV} {v : Value} (h : RV P φ D w x v) (hb : isB x = true) : v = unb x := by
  cases h with
  | b v => rfl
  | agg hl h =>
    rename_i xs vs
    show Value.agg vs = Value.agg (xs.map unb0).toArray
    congr 1
    refine Array.ext (by simp [hl]) fun j h1 h2 => ?_
    have hj : j < xs.length := by omega
    have h3 := h j xs[j] (List.getElem?_eq_getElem hj)
    rw [Array.getD_eq_getD_getElem?, Array.getElem?_eq_getElem h1, Option.getD_some] at h3
    have h4 := isB0_spec h3 (List.all_eq_true.1 hb _ (List.getElem_mem hj))
    simp [h4]
  | _ => cases hb
def isSelect : Op → Bool
  | .select .. => true
  | _ => false
def aBase (P : Program) (o : Oper) (st : St) (K : PV → Mem → Prop) : Prop :=
  isSelect o.op = false ∧ o.op.operands.toList.all (fun x => isB (st.eval x)) = true ∧ ∃ v, (∀ w, (execOp (fun x => unb (st.eval x)) o).run P w = .ok (.value v) w) ∧ K (.b v) st.mem
theorem base_sound (ht : RVs P φ D w st.tmps a.tmps) (h : aBase P o st K) : ∃ v, (execOp a.eval o).run P w = .ok (.value v) w ∧ K (.b v) st.mem := by
  obtain ⟨hs, hb, v, hv, hK⟩ := h
  refine ⟨v, ?_, hK⟩
  rw [execOp_congr (ρ := a.eval) (ρ' := fun x => unb (st.eval x)) o (fun cs b e => by rw [e] at hs; cases hs) (fun x hx => isB_spec (ht.eval x) (List.all_eq_true.1 hb x (by simpa using hx)))]
  exact hv w

end Go.Pv

/- The engine of this session, part 4: operators, conversions, slices of slices. -/
set_option linter.unusedVariables false
set_option linter.unusedSimpArgs false
namespace Go.Pv
open Go.RowKit
variable {P : Program} {w0 w w' : World} {S0 : Nat → Prop} {φ φ' : Phi} {D D' : Nat → Prop} {mem : Mem} {st : St} {a : Act} {o : Oper}

def xorI (k : IntKind) (a b : Int) : Int := k.wrap ((BitVec.ofInt k.bits a ^^^ BitVec.ofInt k.bits b).toNat : Int)
def binI (op : BinOp) (k : IntKind) (a : Int) (k' : IntKind) (b : Int) (K : Value → Prop) (dflt : Prop) : Prop :=
  match op with
  | .add => k = k' ∧ K (.int k (k.wrap (a + b)))
  | .sub => k = k' ∧ K (.int k (k.wrap (a - b)))
  | .mul => k = k' ∧ K (.int k (k.wrap (a * b)))
  | .quo => k = k' ∧ b ≠ 0 ∧ K (.int k (k.wrap (a.tdiv b)))
  | .rem => k = k' ∧ b ≠ 0 ∧ K (.int k (a.tmod b))
  | .eql => k = k' ∧ K (.bool (decide (a = b)))
  | .neq => k = k' ∧ K (.bool (!decide (a = b)))
  | .lss => k = k' ∧ K (.bool (decide (a < b)))
  | .leq => k = k' ∧ K (.bool (decide (a ≤ b)))
  | .gtr => k = k' ∧ K (.bool (decide (b < a)))
  | .geq => k = k' ∧ K (.bool (decide (b ≤ a)))
  | .xor => k = k' ∧ K (.int k (xorI k a b))
  | _ => dflt
def binS (op : BinOp) (a b : ByteArray) (K : Value → Prop) (dflt : Prop) : Prop :=
  match op with
  | .add => a.size + b.size ≤ 9223372036854775807 ∧ K (.string (a ++ b))
  | .eql => K (.bool (decide (a = b)))
  | .neq => K (.bool (!decide (a = b)))
  | .lss => K (.bool (Op.bytesLess a.toList b.toList))
  | .leq => K (.bool (Op.bytesLess a.toList b.toList || decide (a = b)))
  | .gtr => K (.bool (!(Op.bytesLess a.toList b.toList || decide (a = b))))
  | .geq => K (.bool (!(Op.bytesLess a.toList b.toList)))
  | _ => dflt
def aBin (P : Program) (op : BinOp) (t : TypeId) (x y : PV) (K : Value → Prop) (dflt : Prop) : Prop :=
  match x, y with
  | .b (.int k a), .b (.int k' b) => binI op k a k' b K dflt
  | .b (.string a), .b (.string b) => binS op a b K dflt
  | .b (.bool a), .b (.bool b) => (match op with
    | .eql => P.underlying t = some .bool ∧ K (.bool (a == b))
    | .neq => P.underlying t = some .bool ∧ K (.bool (!(a == b)))
    | _ => dflt)
  | _, _ => dflt

theorem bytes_toList_data (b : ByteArray) : b.toList = b.data.toList := by
  have key : ∀ (n i : Nat) (r : List UInt8), b.size - i = n → i ≤ b.size → ByteArray.toList.loop b i r = r.reverse ++ b.data.toList.drop i := by
    intro n
    induction n with
    | zero =>
      intro i r hn hi
      unfold ByteArray.toList.loop
      have : ¬ i < b.size := by omega
      rw [if_neg this, List.drop_of_length_le (by simp; have : b.size = b.data.size := rfl; omega)]
      simp
    | succ n ih =>
      intro i r hn hi
      unfold ByteArray.toList.loop
      have hlt : i < b.size := by omega
      rw [if_pos hlt, ih (i + 1) _ (by omega) (by omega)]
      have hd : i < b.data.toList.length := by simpa using hlt
      have hg : b.get! i = b.data.toList[i] := by
        show b.data[i]! = _
        have : i < b.data.size := hlt
        rw [getElem!_pos b.data i this]
        simp
      rw [List.reverse_cons, List.append_assoc, hg]
      congr 1
      rw [List.drop_eq_getElem_cons hd]
      rfl
  have := key b.size 0 [] rfl (Nat.zero_le _)
  simpa [ByteArray.toList] using this
theorem bytes_inj {a b : ByteArray} (h : a.toList = b.toList) : a = b := by
  rw [bytes_toList_data, bytes_toList_data] at h
  cases a; cases b
  simp at h
  congr
theorem bytes_eq (a b : ByteArray) : (a.toList == b.toList) = decide (a = b) := by
  by_cases h : a = b
  · subst h; simp
  · have : a.toList ≠ b.toList := fun e => h (bytes_inj e)
    simp [h, this]

theorem bin_sound {op : BinOp} {t : TypeId} {xo yo : Operand} {yt : TypeId} {x y : PV} {u v : Value} (ho : o.op = .binOp op t xo yo yt) (hx : RV P φ D w x u) (hy : RV P φ D w y v) (hu : a.eval xo = u) (hv : a.eval yo = v) {K : Value → Prop} {dflt : Prop}
    (h : aBin P op t x y K dflt) : dflt ∨ ∃ r, (execOp a.eval o).run P w = .ok (.value r) w ∧ K r := by
  have run : ∀ {r : Value}, (do eqGuard op t xo yo u v; binOp op t u v : Sem Value).run P w = .ok r w → (execOp a.eval o).run P w = .ok (.value r) w := fun {r} hr => by
    unfold execOp
    simp only [ho, hu, hv, Sem.run_bind] at hr ⊢
    rw [hr]
    rfl
  unfold aBin at h
  split at h
  · cases hx; cases hy
    unfold binI at h
    split at h
    all_goals first
      | exact .inl h
      | (obtain ⟨rfl, h2⟩ := h; refine .inr ⟨_, run ?_, h2⟩; simp [eqGuard, binOp, Op.intArith, Op.intCmp]; done)
      | (obtain ⟨rfl, h2, h3⟩ := h; refine .inr ⟨_, run ?_, h3⟩; simp [eqGuard, binOp, Op.intDiv, h2]; done)
      | (obtain ⟨rfl, h2⟩ := h; refine .inr ⟨_, run ?_, h2⟩; simp [eqGuard, binOp, Op.intBits, xorI]; done)
      | skip
    all_goals (obtain ⟨rfl, h2⟩ := h; refine .inr ⟨_, run ?_, h2⟩; simp [eqGuard, binOp, Op.intArith, Op.intCmp]; rfl)
  · cases hx; cases hy
    unfold binS at h
    split at h
    all_goals first
      | exact .inl h
      | (obtain ⟨h1, h2⟩ := h; refine .inr ⟨_, run ?_, h2⟩; simp only [eqGuard, binOp, Op.stringOp, Sem.run_bind, Sem.run_ite, Sem.run_pure]; simp [IntKind.max, IntKind.bits, IntKind.signed]; done)
      | (refine .inr ⟨_, run ?_, h⟩; simp [eqGuard, binOp, Op.stringOp, bytes_eq]; done)
      | skip
    rename_i p q _
    obtain ⟨h1, h2⟩ := h
    refine .inr ⟨_, run ?_, h2⟩
    have hm : IntKind.i64.max = 9223372036854775807 := by decide
    simp only [eqGuard, binOp, Op.stringOp, Sem.run_bind]
    have : ¬ (((p.size + q.size : Nat) : Int) > 9223372036854775807) := by omega
    simp [hm]
    omega
  · cases hx; cases hy
    split at h
    · refine .inr ⟨_, run ?_, h.2⟩
      have := run_eql_bool (P := P) w t ‹Bool› ‹Bool› h.1
      simp [eqGuard]
      exact run_eql_bool (P := P) w t _ _ h.1
    · refine .inr ⟨_, run ?_, h.2⟩
      simp [eqGuard]
      exact run_neq_bool (P := P) w t _ _ h.1
    · exact .inl h
  · exact .inl h

def isI64 (P : Program) (t : TypeId) : Bool := match P.underlying t with | some (.int .i64) => true | _ => false
/-- A struct of two numbers, which may be compared. -/
def eq2 (P : Program) (t : TypeId) : Bool := (!P.eqGuardType P.depth t && !P.stoodInHeld t) && match P.underlying t with
  | some (.struct fs) => match fs.toList with
    | [f, g] => (f.name != "_" && g.name != "_") && ((f.offset == 0 && g.offset == 1) && (isI64 P f.type && isI64 P g.type))
    | _ => false
  | _ => false
theorem isI64_of {P : Program} {t : TypeId} (h : isI64 P t = true) : P.underlying t = some (.int .i64) := by
  unfold isI64 at h
  split at h
  · assumption
  · cases h
theorem part_i64 {P : Program} {t : TypeId} {xs : Array Value} {off : Nat} {v : Value} {w : World} (h : isI64 P t = true) (hx : xs[off]? = some v) : (part t xs off).run P w = .ok v w := by
  unfold part
  simp only [Sem.run_bind, isAgg, run_underlying (isI64_of h)]
  simp [hx]
theorem eq2_run {P : Program} {t : TypeId} {xo yo : Operand} {a b c d : Int} {w : World} (h : eq2 P t = true) :
    (do eqGuard .eql t xo yo (.agg #[.int .i64 a, .int .i64 b]) (.agg #[.int .i64 c, .int .i64 d]); binOp .eql t (.agg #[.int .i64 a, .int .i64 b]) (.agg #[.int .i64 c, .int .i64 d]) : Sem Value).run P w = .ok (.bool (decide (a = c) && decide (b = d))) w := by
  unfold eq2 at h
  rw [Bool.and_eq_true, Bool.and_eq_true, Bool.not_eq_true', Bool.not_eq_true'] at h
  obtain ⟨⟨h1, h2⟩, h3⟩ := h
  split at h3
  · rename_i fs hfs
    split at h3
    · rename_i f g hfg
      simp only [Bool.and_eq_true, bne_iff_ne, beq_iff_eq] at h3
      obtain ⟨⟨n1, n2⟩, ⟨o1, o2⟩, i1, i2⟩ := h3
      have hf : P.fieldsOf t = fs := by unfold Program.fieldsOf; rw [hfs]
      have hq : ∀ d', (Op.equalIn (d' + 1 + 1) t (.agg #[.int .i64 a, .int .i64 b]) (.agg #[.int .i64 c, .int .i64 d])).run P w = .ok (decide (a = c) && decide (b = d)) w := fun d' => by
        rw [run_equalIn_struct w _ t _ _ (by rw [hf]; exact hfs) h2, hf, hfg]
        simp only [Op.eqFields, n1, n2, ne_eq, not_false_eq_true, if_true, Sem.run_bind, o1, o2]
        rw [part_i64 (v := .int .i64 a) i1 rfl]
        simp only [Result.andThen_ok]
        rw [part_i64 (v := .int .i64 c) i1 rfl]
        simp only [Result.andThen_ok, run_equalIn_int w _ _ _ _ _ _ (isI64_of i1)]
        by_cases e : a = c
        · subst e
          simp only [beq_self_eq_true, Bool.not_true, Bool.false_eq_true, if_false, Sem.run_bind]
          rw [part_i64 (v := .int .i64 b) i2 rfl]
          simp only [Result.andThen_ok]
          rw [part_i64 (v := .int .i64 d) i2 rfl]
          simp only [Result.andThen_ok, run_equalIn_int w _ _ _ _ _ _ (isI64_of i2)]
          by_cases e2 : b = d <;> simp [e2]
        · simp [e]
      rw [Sem.run_bind, run_eqGuard_agg w .eql t xo yo _ _ h1]
      simp only [Result.andThen_ok]
      rw [run_eql_struct, hq 9998]
      rfl
    · cases h3
  · cases h3
def isIfaceB (P : Program) (t : TypeId) : Bool := match P.underlying t with | some (.interface _) => true | _ => false
def isConst : Operand → Bool
  | .const _ => true
  | _ => false
/-- Interfaces, and slices, against nil. -/
def aErr (P : Program) (op : BinOp) (t : TypeId) (c : Bool) (x y : PV) (K : PV → Prop) (dflt : Prop) : Prop :=
  match op, x, y with
  | .eql, .err, .b .nilIface => isIfaceB P t = true ∧ K (.b (.bool false))
  | .neq, .err, .b .nilIface => isIfaceB P t = true ∧ K (.b (.bool true))
  | .eql, .b .nilIface, .b .nilIface => isIfaceB P t = true ∧ c = true ∧ K (.b (.bool true))
  | .neq, .b .nilIface, .b .nilIface => isIfaceB P t = true ∧ c = true ∧ K (.b (.bool false))
  | .eql, .val n _, .b (.slice none 0 0) => (selem P t).isSome = true ∧ K (if n = 0 then .anyB else .b (.bool false))
  | .neq, .val n _, .b (.slice none 0 0) => (selem P t).isSome = true ∧ K (if n = 0 then .anyB else .b (.bool true))
  | .eql, .ref _ _ n, .b (.slice none 0 0) => (selem P t).isSome = true ∧ K (if n = 0 then .anyB else .b (.bool false))
  | .neq, .ref _ _ n, .b (.slice none 0 0) => (selem P t).isSome = true ∧ K (if n = 0 then .anyB else .b (.bool true))
  | .eql, .agg [.b (.int .i64 a), .b (.int .i64 b)], .agg [.b (.int .i64 c'), .b (.int .i64 d)] => eq2 P t = true ∧ K (.b (.bool (decide (a = c') && decide (b = d))))
  | _, _, _ => dflt
theorem err_sound {op : BinOp} {t : TypeId} {xo yo : Operand} {yt : TypeId} {x y : PV} {u v : Value} (ho : o.op = .binOp op t xo yo yt) (hx : RV P φ D w x u) (hy : RV P φ D w y v) (hu : a.eval xo = u) (hv : a.eval yo = v) {K : PV → Prop} {dflt : Prop}
    (h : aErr P op t (isConst yo) x y K dflt) : dflt ∨ ∃ r z, (execOp a.eval o).run P w = .ok (.value r) w ∧ RV P φ D w z r ∧ K z := by
  have run : ∀ {r : Value}, (do eqGuard op t xo yo u v; binOp op t u v : Sem Value).run P w = .ok r w → (execOp a.eval o).run P w = .ok (.value r) w := fun {r} hr => by
    unfold execOp
    simp only [ho, hu, hv, Sem.run_bind] at hr ⊢
    rw [hr]
    rfl
  have iface : isIfaceB P t = true → ∃ ms, P.underlying t = some (.interface ms) := fun h => by
    unfold isIfaceB at h
    split at h
    · rename_i ms he; exact ⟨ms, he⟩
    · cases h
  have hn : ∀ (ms : Array (String × TypeId)) (tp : TypeId) (z : Value), P.underlying t = some (.interface ms) → (Op.equal t (.iface tp z) .nilIface).run P w = .ok false w ∧ (Op.equal t .nilIface .nilIface).run P w = .ok true w := fun ms tp z hi => by
    have h1 : ∀ d : Nat, (Op.equalIn (d + 1) t (.iface tp z) .nilIface).run P w = .ok false w := fun d => by simp [Op.equalIn, run_underlying hi]
    have h2 : ∀ d : Nat, (Op.equalIn (d + 1) t .nilIface .nilIface).run P w = .ok true w := fun d => by simp [Op.equalIn, run_underlying hi]
    exact ⟨by simp [Op.equal, Op.maxDepth, h1 9999], by simp [Op.equal, Op.maxDepth, h2 9999]⟩
  have sl : ∀ (ad : Option Addr) (n c : Nat), (selem P t).isSome = true → (binOp .eql t (.slice ad n c) (.slice none 0 0)).run P w = .ok (.bool ad.isNone) w := fun ad n c h => by
    obtain ⟨⟨e, T⟩, hs⟩ := Option.isSome_iff_exists.1 h
    exact Lib.run_eql_slice_nil w t e ad n c 0 0 (selem_some hs).1
  have sn : ∀ (ad : Option Addr) (n c : Nat), (selem P t).isSome = true → (binOp .neq t (.slice ad n c) (.slice none 0 0)).run P w = .ok (.bool (!ad.isNone)) w := fun ad n c h => by
    obtain ⟨⟨e, T⟩, hs⟩ := Option.isSome_iff_exists.1 h
    simp only [binOp]
    simp [Op.equal, Op.maxDepth, Lib.run_equalIn_slice_nil w 9999 t e ad n c 0 0 (selem_some hs).1]
  have con : isConst yo = true → ∃ z, yo = .const z := fun h => by cases yo <;> first | exact ⟨_, rfl⟩ | cases h
  unfold aErr at h
  split at h
  · cases hx; cases hy
    obtain ⟨ms, hu'⟩ := iface h.1
    rename_i tp z
    refine .inr ⟨_, _, run ?_, .b _, h.2⟩
    simp only [eqGuard, binOp]
    simp [(hn ms tp z hu').1]
  · cases hx; cases hy
    obtain ⟨ms, hu'⟩ := iface h.1
    rename_i tp z
    refine .inr ⟨_, _, run ?_, .b _, h.2⟩
    simp only [eqGuard, binOp]
    simp [(hn ms tp z hu').1]
  · cases hx; cases hy
    obtain ⟨ms, hu'⟩ := iface h.1
    obtain ⟨z, rfl⟩ := con h.2.1
    refine .inr ⟨_, _, run ?_, .b _, h.2.2⟩
    simp only [eqGuard, binOp]
    simp [(hn ms 0 undef hu').2]
  · cases hx; cases hy
    obtain ⟨ms, hu'⟩ := iface h.1
    obtain ⟨z, rfl⟩ := con h.2.1
    refine .inr ⟨_, _, run ?_, .b _, h.2.2⟩
    simp only [eqGuard, binOp]
    simp [(hn ms 0 undef hu').2]
  · cases hy
    refine .inr ?_
    obtain ⟨h1, h2⟩ := h
    cases hx with
    | @val _ c _ ad f hn hd hc hx =>
      refine ⟨_, _, run (by simp only [eqGuard]; exact sl _ _ _ h1), ?_, h2⟩
      split
      · exact .anyB _
      · exact .b _
    | val0 => exact ⟨_, _, run (by simp only [eqGuard]; exact sl _ _ _ h1), by rw [if_pos rfl]; exact .anyB _, h2⟩
  · cases hy
    refine .inr ?_
    obtain ⟨h1, h2⟩ := h
    cases hx with
    | @val _ c _ ad f hn hd hc hx =>
      refine ⟨_, _, run (by simp only [eqGuard]; exact sn _ _ _ h1), ?_, h2⟩
      split
      · exact .anyB _
      · exact .b _
    | val0 => exact ⟨_, _, run (by simp only [eqGuard]; exact sn _ _ _ h1), by rw [if_pos rfl]; exact .anyB _, h2⟩
  · cases hy
    refine .inr ?_
    obtain ⟨h1, h2⟩ := h
    cases hx with
    | ref hb hn hr =>
      refine ⟨_, _, run (by simp only [eqGuard]; exact sl _ _ _ h1), ?_, h2⟩
      split
      · exact .anyB _
      · exact .b _
    | nil => exact ⟨_, _, run (by simp only [eqGuard]; exact sl _ _ _ h1), by rw [if_pos rfl]; exact .anyB _, h2⟩
    | ref0 hne => exact ⟨_, _, run (by simp only [eqGuard]; exact sl _ _ _ h1), by rw [if_pos rfl]; exact .anyB _, h2⟩
  · cases hy
    refine .inr ?_
    obtain ⟨h1, h2⟩ := h
    cases hx with
    | ref hb hn hr =>
      refine ⟨_, _, run (by simp only [eqGuard]; exact sn _ _ _ h1), ?_, h2⟩
      split
      · exact .anyB _
      · exact .b _
    | nil => exact ⟨_, _, run (by simp only [eqGuard]; exact sn _ _ _ h1), by rw [if_pos rfl]; exact .anyB _, h2⟩
    | ref0 hne => exact ⟨_, _, run (by simp only [eqGuard]; exact sn _ _ _ h1), by rw [if_pos rfl]; exact .anyB _, h2⟩
  · obtain ⟨h1, h2⟩ := h
    have ag : ∀ {p q z : Value}, RV P φ D w (.agg [.b p, .b q]) z → z = .agg #[p, q] := fun hz => by
      cases hz with
      | agg hl hh =>
        rename_i us
        obtain ⟨u0, u1, rfl⟩ : ∃ u0 u1, us = #[u0, u1] := by
          rcases us with ⟨_ | ⟨a, _ | ⟨b, _ | ⟨c, l⟩⟩⟩⟩ <;> simp at hl
          exact ⟨a, b, rfl⟩
        have g0 := hh 0 _ rfl
        have g1 := hh 1 _ rfl
        simp at g0 g1
        cases g0
        cases g1
        rfl
    obtain rfl := ag hx
    obtain rfl := ag hy
    exact .inr ⟨_, _, run (eq2_run h1), .b _, h2⟩
  · exact .inl h

def aUn (op : UnOp) (x : PV) (K : Value → Prop) (dflt : Prop) : Prop :=
  match op, x with
  | .not, .b (.bool b) => K (.bool (!b))
  | .neg, .b (.int k n) => K (.int k (k.wrap (0 - n)))
  | _, _ => dflt
theorem un_sound {op : UnOp} {t : TypeId} {xo : Operand} {x : PV} {u : Value} (ho : o.op = .unOp op t xo) (hx : RV P φ D w x u) (hu : a.eval xo = u) {K : Value → Prop} {dflt : Prop}
    (h : aUn op x K dflt) : dflt ∨ ∃ r, (execOp a.eval o).run P w = .ok (.value r) w ∧ K r := by
  unfold aUn at h
  split at h
  · cases hx
    exact .inr ⟨_, by unfold execOp; simp [ho, hu, Op.unary], h⟩
  · cases hx
    exact .inr ⟨_, by unfold execOp; simp [ho, hu, Op.unary, Op.intArith], h⟩
  · exact .inl h

/-- A bound of a slice. -/
def getI : Option PV → Option (Option Int)
  | none => some none
  | some (.b (.int _ n)) => some (some n)
  | _ => none
/-- What getI tells stands for an operand's value. -/
inductive IsB : Option Int → Option Value → Prop
  | none : IsB none none
  | some (k : IntKind) (n : Int) : IsB (some n) (some (.int k n))
theorem getI_spec {x : Option PV} {v : Option Value} (h : ∀ y u, x = some y → v = some u → RV P φ D w y u) (hs : x.isSome = v.isSome) {n : Option Int} (hn : getI x = some n) : IsB n v := by
  cases x with
  | none =>
    cases v with
    | none => simp [getI] at hn; subst hn; exact .none
    | some u => simp at hs
  | some y =>
    cases v with
    | none => simp at hs
    | some u =>
      have := h y u rfl rfl
      unfold getI at hn
      split at hn
      · cases ‹some y = none›
      · rename_i k m e
        cases e
        cases this
        simp at hn; subst hn
        exact .some k m
      · cases hn

theorem run_sliceBounds {n c : Nat} {l h m : Option Int} {lo hi mx : Option Value} (hl : IsB l lo) (hh : IsB h hi) (hm : IsB m mx) (h1 : m.isSome = true → h.isSome = true) (h2 : 0 ≤ l.getD 0) (h3 : l.getD 0 ≤ h.getD n) (h4 : h.getD n ≤ m.getD c) (h5 : m.getD c ≤ c) (b : Bool) :
    (Instr.sliceBounds b n c lo hi mx).run P w = .ok ((l.getD 0).toNat, (h.getD n).toNat, (m.getD c).toNat) w := by
  cases hl with
  | none =>
    cases hh with
    | none =>
      cases hm with
      | none => simp [Instr.sliceBounds]
      | some km m => simp at h1
    | some kh h =>
      cases hm with
      | none =>
        simp only [Option.getD_some, Option.getD_none] at h2 h3 h4 h5
        have eh : (h.toNat : Int) = h := Int.toNat_of_nonneg (by omega)
        simp [Instr.sliceBounds, run_sliceBound, eh, h2, h3, h4]
      | some km m =>
        simp only [Option.getD_some, Option.getD_none] at h2 h3 h4 h5
        have eh : (h.toNat : Int) = h := Int.toNat_of_nonneg (by omega)
        have em : (m.toNat : Int) = m := Int.toNat_of_nonneg (by omega)
        have m0 : 0 ≤ m := by omega
        simp [Instr.sliceBounds, run_sliceBound, eh, em, h2, h3, h4, h5, m0]
  | some kl l =>
    cases hh with
    | none =>
      cases hm with
      | none =>
        simp only [Option.getD_some, Option.getD_none] at h2 h3 h4 h5
        simp [Instr.sliceBounds, run_sliceBound, h2, h3]
      | some km m => simp at h1
    | some kh h =>
      have h0 : 0 ≤ h := by simp only [Option.getD_some] at h2 h3; omega
      cases hm with
      | none =>
        simp only [Option.getD_some, Option.getD_none] at h2 h3 h4 h5
        have eh : (h.toNat : Int) = h := Int.toNat_of_nonneg (by omega)
        simp [Instr.sliceBounds, run_sliceBound, eh, h0, h2, h3, h4]
      | some km m =>
        simp only [Option.getD_some, Option.getD_none] at h2 h3 h4 h5
        have eh : (h.toNat : Int) = h := Int.toNat_of_nonneg (by omega)
        have em : (m.toNat : Int) = m := Int.toNat_of_nonneg (by omega)
        have m0 : 0 ≤ m := by omega
        simp [Instr.sliceBounds, run_sliceBound, eh, em, h0, h2, h3, h4, h5, m0]

def aSlice (P : Program) (t : TypeId) (x : PV) (lo hi mx : Option PV) (K : PV → Prop) (dflt : Prop) : Prop :=
  match getI lo, getI hi, getI mx with
  | some l, some h, some m => (match x with
    | .ref i o n => (match selem P t with
      | some (_, T) => T.size ≠ 0 ∧ (m.isSome = true → h.isSome = true) ∧ 0 ≤ l.getD 0 ∧ l.getD 0 ≤ h.getD n ∧ h.getD n ≤ m.getD n ∧ m.getD n ≤ n ∧ K (.ref i (o + (l.getD 0).toNat * T.size) (h.getD n - l.getD 0).toNat)
      | none => False)
    | .val n xs => (match selem P t with
      | some (_, T) => (m.isSome = true → h.isSome = true) ∧ 0 ≤ l.getD 0 ∧ l.getD 0 ≤ h.getD n ∧ h.getD n ≤ m.getD n ∧ m.getD n ≤ n ∧ K (.val (h.getD n - l.getD 0).toNat ((xs.drop ((l.getD 0).toNat * T.size)).take ((h.getD n - l.getD 0).toNat * T.size)))
      | none => False)
    | .b (.string s) => P.underlying t = some .string ∧ m = none ∧ 0 ≤ l.getD 0 ∧ l.getD 0 ≤ h.getD s.size ∧ h.getD s.size ≤ s.size ∧ K (.b (.string (s.extract (l.getD 0).toNat (h.getD s.size).toNat)))
    | _ => dflt)
  | _, _, _ => dflt

theorem slice_sound {t : TypeId} {x : PV} {lo hi mx : Option PV} {v : Value} {vl vh vm : Option Value} (hx : RV P φ D w x v) (hl : ∀ n, getI lo = some n → IsB n vl) (hh : ∀ n, getI hi = some n → IsB n vh) (hm : ∀ n, getI mx = some n → IsB n vm) {K : PV → Prop} {dflt : Prop}
    (h : aSlice P t x lo hi mx K dflt) : dflt ∨ ∃ r y, (Instr.sliceAt t v vl vh vm).run P w = .ok r w ∧ RV P φ D w y r ∧ K y := by
  unfold aSlice at h
  split at h
  · rename_i l h' m el eh em
    have hl := hl _ el
    have hh := hh _ eh
    have hm := hm _ em
    split at h
    · rename_i i off n
      split at h
      · rename_i e T hs
        obtain ⟨hu, hT⟩ := selem_some hs
        obtain ⟨hsz, h1, h2, h3, h4, h5, hK⟩ := h
        have go : ∀ (base : Option Addr) (c : Nat), n ≤ c → v = .slice base n c → (Instr.sliceAt t v vl vh vm).run P w = .ok (.slice (if (m.getD c).toNat = (l.getD 0).toNat then base else base.map (·.add ((l.getD 0).toNat * T.size))) ((h'.getD n).toNat - (l.getD 0).toNat) ((m.getD c).toNat - (l.getD 0).toNat)) w := fun base c hc ev => by
          subst ev
          have hb := run_sliceBounds (P := P) (w := w) (n := n) (c := c) hl hh hm h1 h2 h3 (by cases m with
            | none => simp only [Option.getD_none] at h4 ⊢; omega
            | some m => simpa using h4) (by cases m with
            | none => simp
            | some m => simp only [Option.getD_some] at h5 ⊢; omega) true
          simp [Instr.sliceAt, Instr.slice, run_underlying hu, hb, run_sizeOf hT]
        have en : (h'.getD n).toNat - (l.getD 0).toNat = (h'.getD n - l.getD 0).toNat := by omega
        refine .inr ?_
        have lenle : ∀ c, n ≤ c → (h'.getD n).toNat - (l.getD 0).toNat ≤ (m.getD (c : Int)).toNat - (l.getD 0).toNat := fun c hc => by
          cases m with
          | none => simp only [Option.getD_none] at h4 ⊢; omega
          | some m => simp only [Option.getD_some] at h4 ⊢; omega
        cases hx with
        | @ref _ _ _ bl c hb hn hr =>
          refine ⟨_, _, go _ c hn rfl, ?_, hK⟩
          rw [← en]
          by_cases hml : (m.getD (c : Int)).toNat = (l.getD 0).toNat
          · rw [if_pos hml]
            have h0 : (h'.getD n).toNat - (l.getD 0).toNat = 0 := by have := lenle c hn; omega
            rw [h0]
            by_cases hz : off + (l.getD 0).toNat * T.size = 0
            · have ho : off = 0 := by omega
              subst ho
              rw [hz, hml, Nat.sub_self]
              exact .ref hb (Nat.le_refl _) (fun _ => by obtain ⟨_, cs, t', h7, _⟩ := hr rfl; exact ⟨Nat.zero_le _, cs, t', h7, by simp⟩)
            · exact .ref0 hz
          · rw [if_neg hml]
            simp only [Option.map_some, addr_add]
            refine .ref hb (lenle c hn) (fun hz => ?_)
            have ho : off = 0 := by omega
            obtain ⟨h8, cs, t', h7, h9⟩ := hr ho
            have hc : (m.getD (c : Int)).toNat - (l.getD 0).toNat ≤ c := by
              cases m with
              | none => simp
              | some m => simp only [Option.getD_some] at h5 ⊢; omega
            exact ⟨Nat.le_trans hc h8, cs, t', h7, Nat.le_trans (Nat.mul_le_mul_right _ hc) h9⟩
        | nil =>
          refine ⟨_, _, go _ 0 (Nat.le_refl _) rfl, ?_, hK⟩
          rw [← en]
          have hm0 : (m.getD ((0:Nat) : Int)).toNat = 0 := by
            cases m with
            | none => simp
            | some m => simp only [Option.getD_some] at h5 ⊢; omega
          have h0 : (h'.getD ((0 : Nat) : Int)).toNat - (l.getD 0).toNat = 0 := by have := lenle 0 (Nat.le_refl _); omega
          rw [h0, hm0, Nat.zero_sub]
          simp
          exact .nil
        | @ref0 _ _ c ad hne =>
          refine ⟨_, _, go _ c (Nat.zero_le _) rfl, ?_, hK⟩
          rw [← en]
          have hn0 : (h'.getD ((0 : Nat) : Int)).toNat = 0 := by
            cases m with
            | none => simp only [Option.getD_none] at h4; omega
            | some m => simp only [Option.getD_some] at h4 h5; omega
          have h0 : (h'.getD ((0 : Nat) : Int)).toNat - (l.getD 0).toNat = 0 := by omega
          rw [h0]
          exact .ref0 (by omega)
      · exact h.elim
    · rename_i n xs
      split at h
      · rename_i e T hs
        obtain ⟨hu, hT⟩ := selem_some hs
        obtain ⟨h1, h2, h3, h4, h5, hK⟩ := h
        have go : ∀ (base : Option Addr) (c : Nat), n ≤ c → v = .slice base n c → (Instr.sliceAt t v vl vh vm).run P w = .ok (.slice (if (m.getD c).toNat = (l.getD 0).toNat then base else base.map (·.add ((l.getD 0).toNat * T.size))) ((h'.getD n).toNat - (l.getD 0).toNat) ((m.getD c).toNat - (l.getD 0).toNat)) w := fun base c hc ev => by
          subst ev
          have hb := run_sliceBounds (P := P) (w := w) (n := n) (c := c) hl hh hm h1 h2 h3 (by cases m with
            | none => simp only [Option.getD_none] at h4 ⊢; omega
            | some m => simpa using h4) (by cases m with
            | none => simp
            | some m => simp only [Option.getD_some] at h5 ⊢; omega) true
          simp [Instr.sliceAt, Instr.slice, run_underlying hu, hb, run_sizeOf hT]
        have en : (h'.getD n).toNat - (l.getD 0).toNat = (h'.getD n - l.getD 0).toNat := by omega
        have lenle : ∀ c, n ≤ c → (h'.getD n).toNat - (l.getD 0).toNat ≤ (m.getD (c : Int)).toNat - (l.getD 0).toNat := fun c hc => by
          cases m with
          | none => simp only [Option.getD_none] at h4 ⊢; omega
          | some m => simp only [Option.getD_some] at h4 ⊢; omega
        refine .inr ?_
        cases hx with
        | @val _ c _ ad f hn hd hc hx =>
          refine ⟨_, _, go _ c hn rfl, ?_, hK⟩
          rw [← en]
          by_cases hml : (m.getD (c : Int)).toNat = (l.getD 0).toNat
          · rw [if_pos hml]
            have h0 : (h'.getD n).toNat - (l.getD 0).toNat = 0 := by have := lenle c hn; omega
            rw [h0, Nat.zero_mul, List.take_zero]
            exact .val0
          · rw [if_neg hml]
            simp only [Option.map_some]
            refine .val (f := fun j => f ((l.getD 0).toNat * T.size + j)) (lenle c hn) (by rw [add_block]; exact hd) (fun j x hj => ?_) (fun j x hj => ?_)
            · rw [List.getElem?_take] at hj
              split at hj
              · rw [List.getElem?_drop] at hj; rw [add_add]; exact hc _ _ hj
              · cases hj
            · rw [List.getElem?_take] at hj
              split at hj
              · rw [List.getElem?_drop] at hj; exact hx _ _ hj
              · cases hj
        | @val0 _ ad c =>
          refine ⟨_, _, go _ c (Nat.zero_le _) rfl, ?_, hK⟩
          rw [← en]
          have hn0 : (h'.getD ((0 : Nat) : Int)).toNat = 0 := by
            cases m with
            | none => simp only [Option.getD_none] at h4; omega
            | some m => simp only [Option.getD_some] at h4 h5; omega
          have h0 : (h'.getD ((0 : Nat) : Int)).toNat - (l.getD 0).toNat = 0 := by omega
          rw [h0]
          simp
          exact .val0
      · exact h.elim
    · rename_i s
      obtain ⟨hu, rfl, h2, h3, h4, hK⟩ := h
      cases hx
      refine .inr ⟨.string (s.extract (l.getD 0).toNat (h'.getD s.size).toNat), _, ?_, .b _, hK⟩
      have hb := run_sliceBounds (P := P) (w := w) (n := s.size) (c := s.size) hl hh .none (by simp) h2 h3 (by simpa using h4) (by simp) false
      cases hm
      simp [Instr.sliceAt, Instr.slice, run_underlying hu, hb]
    · exact .inl h
  · exact .inl h

end Go.Pv

/- The engine of this session, part 5: values and rows that are built, made, appended to. -/
set_option linter.unusedVariables false
set_option linter.unusedSimpArgs false
namespace Go.Pv
open Go.RowKit
variable {P : Program} {w0 w w' : World} {S0 : Nat → Prop} {φ φ' : Phi} {D D' : Nat → Prop} {mem : Mem} {st : St} {a : Act} {o : Oper}

def storeA : Array Value → Nat → List Value → Array Value
  | cs, _, [] => cs
  | cs, o, v :: vs => storeA (cs.setIfInBounds o v) (o + 1) vs
theorem RVs.set {xs : List PV} {vs : Array Value} (h : RVs P φ D w xs vs) {x : PV} {v : Value} (hx : RV P φ D w x v) (o : Nat) : RVs P φ D w (xs.set o x) (vs.setIfInBounds o v) := by
  refine ⟨by simp [h.1], fun j y hy => ?_⟩
  rw [List.getElem?_set] at hy
  by_cases hd : o = j
  · subst hd
    simp at hy
    obtain ⟨hlt, rfl⟩ := hy
    have : o < vs.size := by rw [h.1]; exact hlt
    simpa [this] using hx
  · simp [hd] at hy
    have := h.2 j y hy
    simpa [Array.getElem?_setIfInBounds_ne hd] using this
theorem RVs.storeL : ∀ (ys : List PV) (us : List Value) (xs : List PV) (vs : Array Value) (o : Nat), RVs P φ D w xs vs → us.length = ys.length → (∀ j y, ys[j]? = some y → RV P φ D w y (us.getD j undef)) → RVs P φ D w (Pv.storeL xs o ys) (storeA vs o us)
  | [], [], xs, vs, o, h, _, _ => h
  | [], _ :: _, _, _, _, _, hl, _ => by simp at hl
  | _ :: _, [], _, _, _, _, hl, _ => by simp at hl
  | y :: ys, u :: us, xs, vs, o, h, hl, hx => RVs.storeL ys us _ _ _ (h.set (hx 0 y rfl) o) (by simpa using hl) (fun j z hz => by simpa using hx (j + 1) z (by simpa using hz))
theorem foldl_storeA : ∀ (l : List Value) (k off : Nat) (cs : Array Value), (l.zipIdx k).foldl (fun cs (p : Value × Nat) => cs.setIfInBounds (off + p.2) p.1) cs = storeA cs (off + k) l
  | [], _, _, _ => rfl
  | v :: l, k, off, cs => by
    simp only [List.zipIdx_cons, List.foldl_cons, storeA]
    rw [foldl_storeA l (k + 1) off]
    rfl

def fillPV (place : Nat → Option (Nat × Nat)) (cells : List PV) : List (Nat × PV) → Option (List PV)
  | [] => some cells
  | (i, x) :: rest => (place i).bind fun p => (cellsOf x).bind fun ys => if ys.length = p.2 ∧ p.1 + p.2 ≤ cells.length then fillPV place (storeL cells p.1 ys) rest else none
theorem fill_sound (place : Nat → Option (Nat × Nat)) : ∀ (parts : List (Nat × PV)) (vparts : List (Nat × Value)) (cells : List PV) (cs : Array Value) (out : List PV), RVs P φ D w cells cs → vparts.length = parts.length →
    (∀ (j : Nat) (p : Nat × PV) (q : Nat × Value), parts[j]? = some p → vparts[j]? = some q → q.1 = p.1 ∧ RV P φ D w p.2 q.2) → fillPV place cells parts = some out → ∃ outv, Instr.fill place cs vparts = some outv ∧ RVs P φ D w out outv
  | [], [], cells, cs, out, h, _, _, hf => by simp [fillPV] at hf; subst hf; exact ⟨cs, rfl, h⟩
  | [], _ :: _, _, _, _, _, hl, _, _ => by simp at hl
  | _ :: _, [], _, _, _, _, hl, _, _ => by simp at hl
  | (i, x) :: parts, (i', v) :: vparts, cells, cs, out, h, hl, hp, hf => by
    obtain ⟨e, hx⟩ := hp 0 _ _ rfl rfl
    simp at e hx
    subst e
    simp only [fillPV, Option.bind_eq_some_iff] at hf
    obtain ⟨⟨off, size⟩, hpl, ys, hy, hf⟩ := hf
    split at hf
    · rename_i hc
      obtain ⟨hc1, hc2⟩ := hc
      simp only at hc1 hc2
      obtain ⟨hsz, hcells⟩ := cellsOf_spec hx hy
      have h2 := RVs.storeL ys v.cells.toList cells cs off h (by simp [hsz]) (fun j y hj => by have := hcells j y hj; rw [Array.getD_eq_getD_getElem?] at this; simpa using this)
      obtain ⟨outv, h3, h4⟩ := fill_sound place parts vparts _ _ out h2 (by simpa using hl) (fun j p q hj hq => hp (j + 1) p q (by simpa using hj) (by simpa using hq)) hf
      refine ⟨outv, ?_, h4⟩
      have hn : ¬ (v.cells.size ≠ size ∨ off + v.cells.size > cs.size) := by rw [hsz, hc1, h.1]; omega
      have hfold : v.cells.zipIdx.foldl (fun cs (p : Value × Nat) => cs.setIfInBounds (off + p.2) p.1) cs = storeA cs off v.cells.toList := by
        have := foldl_storeA v.cells.toList 0 off cs
        rw [Nat.add_zero] at this
        rw [← this, ← Array.foldl_toList, Array.toList_zipIdx]
      simp only [Instr.fill, hpl]
      have hn' : (decide (v.cells.size ≠ size) || decide (off + v.cells.size > cs.size)) = false := by simp; omega
      rw [hn']
      simp only [Bool.false_eq_true, if_false]
      rw [hfold]
      exact h3
    · cases hf

/-- Where a struct's fields lie. -/
def splaces (P : Program) (t : TypeId) : Option (List (Nat × Nat)) :=
  match P.underlying t with
  | some (.struct fs) => fs.toList.mapM fun f => (P.info? f.type).map fun i => (f.offset, i.size)
  | _ => none
def aBuild (P : Program) (t : TypeId) (parts : List (Nat × PV)) (K : PV → Prop) : Prop :=
  match tinfo P t, splaces P t with
  | some T, some pl => (match T.zero with
    | some z => (match fillPV (pl[·]?) (z.map .b) parts with | some out => K (.agg out) | none => False)
    | none => False)
  | _, _ => False
theorem build_sound {t : TypeId} {parts : List (Nat × PV)} {vparts : List (Nat × Value)} (hl : vparts.length = parts.length) (hp : ∀ (j : Nat) (p : Nat × PV) (q : Nat × Value), parts[j]? = some p → vparts[j]? = some q → q.1 = p.1 ∧ RV P φ D w p.2 q.2) {K : PV → Prop} (h : aBuild P t parts K) :
    ∃ r y, (Instr.build t vparts.toArray).run P w = .ok r w ∧ RV P φ D w y r ∧ K y := by
  unfold aBuild at h
  split at h
  · rename_i T pl hT hpl
    split at h
    · rename_i z hz
      split at h
      · rename_i out hf
        obtain ⟨i, dsc, hi, hu, _, _, _, hzz⟩ := tinfo_some hT
        unfold splaces at hpl
        split at hpl
        · rename_i fs hu'
          cases hiz : i.zero with
          | none => rw [hiz] at hzz; rw [hzz] at hz; cases hz
          | some zv =>
            rw [hiz] at hzz
            rw [hzz] at hz
            simp at hz
            subst hz
            obtain ⟨outv, h3, h4⟩ := fill_sound (P := P) (φ := φ) (D := D) (w := w) (pl[·]?) parts vparts _ zv.cells out (RVs_b P φ D w zv.cells) hl hp hf
            refine ⟨.agg outv, .agg out, ?_, .agg h4.1 h4.2, h⟩
            refine run_build w t _ _ ?_
            simp only [Program.built, hi, hu', hiz, hpl]
            simpa using h3
        · cases hpl
      · exact h.elim
    · exact h.elim
  · exact h.elim

theorem upd_upd (m : Mem) (i : Nat) (s t : Slot) : upd (upd m i s) i t = upd m i t := by
  funext j; simp only [upd]; split <;> rfl
theorem upd_comm (m : Mem) {i j : Nat} (h : i ≠ j) (s t : Slot) : upd (upd m i s) j t = upd (upd m j t) i s := by
  funext k
  simp only [upd]
  by_cases h1 : k = i <;> by_cases h2 : k = j <;> simp_all

/-- A row under a new name. -/
theorem MR.move (hm : MR P w0 S0 φ D mem w) {i k : Nat} {t : TypeId} {xs : List PV} (hi : mem i = .row t xs) (hk : mem k = .free) {b : Nat} (hb : φ i = some b) :
    Tr φ D w (setPhi φ k b) D w ∧ MR P w0 S0 (setPhi φ k b) D (upd (upd mem i .dead) k (.row t xs)) w := by
  have hik : k ≠ i := fun e => by subst e; rw [hi] at hk; cases hk
  have ht : Tr φ D w (setPhi φ k b) D w := ⟨fun j c _ hj => by
      unfold setPhi
      split
      · rename_i e; subst e; rw [hm.free _ hk] at hj; cases hj
      · exact hj, fun _ h => h, fun _ _ => rfl, fun _ cs _ h => ⟨cs, h, rfl⟩, Nat.le_refl _, fun _ h => .inl h, fun j c hj => by
      unfold setPhi at hj
      split at hj
      · cases hj; exact .inr ⟨i, hb⟩
      · exact .inr ⟨j, hj⟩⟩
  have old : ∀ j t' xs', j ≠ k → upd (upd mem i .dead) k (.row t xs) j = .row t' xs' → mem j = .row t' xs' ∧ j ≠ i := fun j t' xs' hj h => by
    rw [upd_ne _ _ hj] at h
    by_cases hji : j = i
    · subst hji; rw [upd_same] at h; cases h
    · rw [upd_ne _ _ hji] at h; exact ⟨h, hji⟩
  refine ⟨ht, hm.os, hm.tape, hm.output, hm.size, hm.keep, ?_, ?_, hm.dlt, ?_, hm.gl⟩
  · intro j t' xs' hj
    by_cases hjk : j = k
    · subst hjk
      rw [upd_same] at hj
      cases hj
      obtain ⟨cs, hr⟩ := hm.rowAt hi hb
      exact .inr ⟨b, cs, by simp [setPhi], hr.heap, hr.len, fun q x hq => (hr.cells q x hq).mono ht, hr.own, hr.new⟩
    · obtain ⟨h1, h2⟩ := old j t' xs' hjk hj
      rcases hm.row j t' xs' h1 with h0 | ⟨bl, cs, hr⟩
      · exact .inl ⟨h0.1, by simp [setPhi, hjk, h0.2]⟩
      · exact .inr ⟨bl, cs, ht.phi _ _ trivial hr.phi, hr.heap, hr.len, fun q x hq => (hr.cells q x hq).mono ht, hr.own, hr.new⟩
  · intro j j' t1 xs1 t2 xs2 c hj hj' hc hc'
    by_cases h1 : j = k <;> by_cases h2 : j' = k
    · rw [h1, h2]
    · obtain ⟨h3, h4⟩ := old j' _ _ h2 hj'
      subst h1
      simp [setPhi] at hc
      simp [setPhi, h2] at hc'
      subst hc
      exact absurd (hm.inj j' i _ _ _ _ b h3 hi hc' hb) h4
    · obtain ⟨h3, h4⟩ := old j _ _ h1 hj
      subst h2
      simp [setPhi] at hc'
      simp [setPhi, h1] at hc
      subst hc'
      exact absurd (hm.inj j i _ _ _ _ b h3 hi hc hb) h4
    · obtain ⟨h3, _⟩ := old j _ _ h1 hj
      obtain ⟨h4, _⟩ := old j' _ _ h2 hj'
      simp [setPhi, h1] at hc
      simp [setPhi, h2] at hc'
      exact hm.inj j j' _ _ _ _ c h3 h4 hc hc'
  · intro j hj
    by_cases h1 : j = k
    · subst h1; rw [upd_same] at hj; cases hj
    · rw [upd_ne _ _ h1] at hj
      by_cases h2 : j = i
      · subst h2; rw [upd_same] at hj; cases hj
      · rw [upd_ne _ _ h2] at hj
        simp [setPhi, h1, hm.free j hj]

/-- An empty row of no block, under a new name. -/
theorem MR.none (hm : MR P w0 S0 φ D mem w) {k : Nat} (t : TypeId) (hk : mem k = .free) : MR P w0 S0 φ D (upd mem k (.row t [])) w := by
  have old : ∀ j t' xs', j ≠ k → upd mem k (.row t []) j = .row t' xs' → mem j = .row t' xs' := fun j t' xs' hj h => by rwa [upd_ne _ _ hj] at h
  refine ⟨hm.os, hm.tape, hm.output, hm.size, hm.keep, ?_, ?_, hm.dlt, ?_, hm.gl⟩
  · intro j t' xs' hj
    by_cases hjk : j = k
    · subst hjk; rw [upd_same] at hj; cases hj; exact .inl ⟨rfl, hm.free _ hk⟩
    · exact hm.row j t' xs' (old j _ _ hjk hj)
  · intro j j' t1 xs1 t2 xs2 c hj hj' hc hc'
    by_cases h1 : j = k
    · subst h1; rw [hm.free _ hk] at hc; cases hc
    by_cases h2 : j' = k
    · subst h2; rw [hm.free _ hk] at hc'; cases hc'
    exact hm.inj j j' _ _ _ _ c (old j _ _ h1 hj) (old j' _ _ h2 hj') hc hc'
  · intro j hj
    by_cases h1 : j = k
    · subst h1; rw [upd_same] at hj; cases hj
    · rw [upd_ne _ _ h1] at hj; exact hm.free j hj

end Go.Pv
